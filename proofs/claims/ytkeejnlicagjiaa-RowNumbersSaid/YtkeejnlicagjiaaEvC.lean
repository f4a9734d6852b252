/-
  The statement RowNumbers of the program is proved: for every input that the row speaks of, the law answers true.
  Conditions: those that the statement's row prints, and no other. This text: an evaluator of the model's code over plain values, and that it is sound (part 3).
-/
import Derived.Test.YtkeejnlicagjiaaEvB
import Derived.LoopN
import Derived.Test.YtkeejnlicagjiaaEvA
import Derived.WalkKit
import Derived.ProofKit
import Derived.OpenShut
import Derived.ShutString
import Derived.ChangeOld
import Derived.Below
import Derived.SizedLaws
set_option linter.unusedVariables false
set_option linter.unusedSimpArgs false
namespace Go.Ev
section
variable {P : Program} {X : Cfg} {R : Type} {w : World}
variable {g : Gh} {env : List D} {sto : Sto} {o : Oper} {a : Act} {k : St → Option R} {r : R} {cx : Cx}

/-- Rows of cells, element by element, in one array. -/
structure Elems (X : Cfg) (g : Gh) (w : World) (sz : Nat) (cs : List (List D)) (V : Array Value) : Prop where
  size : V.size = cs.length * sz
  rep : ∀ (i : Nat) c, cs[i]? = some c → c.length = sz ∧ ∀ (j : Nat) d, c[j]? = some d → ∃ u, V[i * sz + j]? = some u ∧ RepV X g.φ g.G w d u

theorem fillL_sound (hs : Sim X g w env a.tmps.toList sto) {sz : Nat} {place : Nat → Option (Nat × Nat)} (hp : ∀ i, place i = some (i * sz, sz)) :
    ∀ (parts : List (Nat × Operand)) (cs cs' : List (List D)) (V : Array Value), fillL sz env parts cs = some cs' → Elems X g w sz cs V →
      ∃ V', Instr.fill place V (parts.map fun p => (p.1, a.eval p.2)) = some V' ∧ Elems X g w sz cs' V' ∧ cs'.length = cs.length
  | [], cs, cs', V, h, hV => by
    cases h; exact ⟨V, rfl, hV, rfl⟩
  | (i, x) :: rest, cs, cs', V, h, hV => by
    unfold fillL at h
    simp only at h
    split at h
    · rename_i h1 h2
      obtain ⟨hl, hlv, h1s⟩ := fits_spec h1
      have hi : i < cs.length := Nat.le_of_ble_eq_true h2
      have hne : (rd env x).cells ≠ [] := by intro e; rw [e] at hl; simp at hl; omega
      obtain ⟨hvs, hvr⟩ := cells_rep (hs.read x) hne
      rw [hl] at hvs
      have hmul : i * sz + sz ≤ cs.length * sz := by rw [← Nat.succ_mul]; exact Nat.mul_le_mul_right _ hi
      obtain ⟨V1, hf, hsz, hget⟩ := fill_one (V := V) (rest := rest.map fun p => (p.1, a.eval p.2)) (hp i) hvs (by rw [hV.size]; exact hmul)
      have hV1 : Elems X g w sz (cs.set i (rd env x).cells) V1 := by
        refine ⟨by rw [hsz, hV.size]; simp, fun i' c hc => ?_⟩
        rcases get_set_eq hc with ⟨rfl, _, rfl⟩ | ⟨hne, hc⟩
        · refine ⟨hl, fun j d hj => ?_⟩
          obtain ⟨u, hu, hr⟩ := hvr j d hj
          have hjs : j < sz := hl ▸ (List.getElem?_eq_some_iff.1 hj).1
          refine ⟨u, ?_, hr⟩
          rw [hget, if_pos ⟨by omega, by omega⟩, show i * sz + j - i * sz = j by omega]
          exact hu
        · obtain ⟨hcl, hcr⟩ := hV.rep i' c hc
          refine ⟨hcl, fun j d hj => ?_⟩
          obtain ⟨u, hu, hr⟩ := hcr j d hj
          have hjs : j < sz := hcl ▸ (List.getElem?_eq_some_iff.1 hj).1
          refine ⟨u, ?_, hr⟩
          rw [hget, if_neg, hu]
          rintro ⟨h3, h4⟩
          rcases Nat.lt_or_gt_of_ne hne with h5 | h5
          · have : (i + 1) * sz ≤ i' * sz := Nat.mul_le_mul_right _ h5
            rw [Nat.succ_mul] at this; omega
          · have : (i' + 1) * sz ≤ i * sz := Nat.mul_le_mul_right _ h5
            rw [Nat.succ_mul] at this; omega
      obtain ⟨V', h3, h4, h5⟩ := fillL_sound hs hp rest _ cs' V1 h hV1
      exact ⟨V', by rw [List.map_cons, hf]; exact h3, h4, by rw [h5]; simp⟩
    · cases h

theorem zeros_elems {te : TE} {e : TypeId} (hte : TEok P e te) {i : TypeInfo} {z : Value} (hz : zeroL te.zero z.cells.toList = true) (h1 : 1 ≤ te.size) (n : Nat) :
    Elems X g w te.size (List.replicate n te.zero) ((Array.range (n * te.size)).map (z.cells[· % z.cells.size]!)) := by
  obtain ⟨hl, hg⟩ := zeroL_spec hz
  rw [hte.zlen] at hl
  have hzs : z.cells.size = te.size := by simpa using hl
  refine ⟨by simp, fun i' c hc => ?_⟩
  have hi : i' < n := by have := (List.getElem?_eq_some_iff.1 hc).1; simpa using this
  have : c = te.zero := by
    rw [List.getElem?_replicate, if_pos hi] at hc; exact (Option.some.inj hc).symm
  subst this
  refine ⟨hte.zlen, fun j d hj => ?_⟩
  obtain ⟨u, hu, hz1⟩ := hg j d hj
  have hjs : j < te.size := hte.zlen ▸ (List.getElem?_eq_some_iff.1 hj).1
  have hidx : i' * te.size + j < n * te.size := cell_idx hi hjs
  refine ⟨u, ?_, (zero1_spec hz1).1⟩
  rw [Array.getElem?_map]
  simp only [Array.getElem?_range, hidx, if_true, Option.map_some]
  congr 1
  rw [hzs, Nat.mul_comm, Nat.mul_add_mod, Nat.mod_eq_of_lt hjs]
  have hu' : z.cells[j]? = some u := by simpa using hu
  rw [getElem!_pos _ _ (by rw [hzs]; exact hjs)]
  exact (Array.getElem?_eq_some_iff.1 hu').2

theorem run_buildSlice {t e : TypeId} {len : Nat} {i : TypeInfo} {z : Value} (hu : P.underlying t = some (.slice e)) (hi : P.info? e = some i) (hz : i.zero = some z) (hgt : ¬ (len * i.size > 2 ^ 24))
    {ps : Array (Nat × Value)} {V : Array Value} (hf : Instr.fill (fun k => some (k * i.size, i.size)) ((Array.range (len * i.size)).map (z.cells[· % z.cells.size]!)) ps.toList = some V) :
    (Instr.buildSlice t len ps).run P w = .ok (.slice (some ⟨w.heap.size, 0, none⟩) len len) (w.alloc (.cells V e)) := by
  unfold Instr.buildSlice
  by_cases h0 : len * i.size = 0
  · have e1 : ∀ q : Array Value, (Array.range (len * i.size)).map (fun k => q[k % q.size]!) = #[] := fun q => by rw [h0]; simp
    rw [e1] at hf
    simp only [Sem.run_bind, run_underlying hu, Result.andThen_ok, sizeOf, typeInfo, program, Sem.run, hi, Sem.run_pure, if_neg hgt, if_pos h0, e1, hf]
    rfl
  · simp only [Sem.run_bind, run_underlying hu, Result.andThen_ok, sizeOf, typeInfo, program, Sem.run, hi, Sem.run_pure, if_neg hgt, if_neg h0, run_zero hi hz, hf]
    rfl

theorem op_buildSlice (hcx : CxOk P X cx) {t e : TypeId} {len : Nat} {parts : Array (Nat × Operand)} (ho : o.op = .buildSlice t len parts) (hs : Sim X g w env a.tmps.toList sto) {ts te : TE} {ty : Ty} {cs : List (List D)} {l : List ty.den}
    (h1 : look cx.tab t = some ts) (hd : ts.d = .slice e) (h2 : look cx.tab e = some te) (hty : te.ty = some ty) (hf : fillL te.size env parts.toList (List.replicate len te.zero) = some cs) (hdec : decRow ty cs = some l)
    (hle : len * te.size ≤ 16777216) (hk : k ⟨put env o.dst (.sl .own ty l), sto⟩ = some r) : OpOk P X o a w g k r := by
  have hu := desc_slice hcx h1 hd
  have hte := hcx.tab _ _ h2
  obtain ⟨i, z, hi, hisz, hiby, hz, hzl⟩ := hte.info
  obtain ⟨hts, hta, h1s, h1b⟩ := hte.ty ty hty
  have hV0 := zeros_elems (P := P) (X := X) (g := g) (w := w) hte (i := i) hzl h1s len
  obtain ⟨V, hV, hel, hcl⟩ := fillL_sound (a := a) hs (place := fun i => some (i * te.size, te.size)) (fun _ => rfl) parts.toList _ cs _ hf hV0
  obtain ⟨hll, hlr⟩ := decRow_sound hdec
  have hcl2 : cs.length = len := by rw [hcl]; simp
  have hlen : l.length = len := hll.trans hcl2
  obtain ⟨g1, h3, e1⟩ := hs.newOwn (t := ty) (l := l) V e (0, 0) len (fun j => V.getD j undef)
    (fun j hj => by
      rw [hlen, hts, ← hcl2, ← hel.size] at hj
      simp [Array.getD, hj])
    (fun ii x hx j c hc => by
      obtain ⟨cc, hcc, hdp⟩ := hlr ii x hx
      obtain ⟨hccl, hccr⟩ := hel.rep ii cc hcc
      obtain ⟨_, _, hdr⟩ := decP_sound (X := X) (φ := g.φ) (G := g.G) (w := w) ty cc x [] hdp
      have := hdr (fun j => V.getD (ii * te.size + j) undef) (fun j d _ hj => by
        obtain ⟨u, hu, hr⟩ := hccr j d hj
        have : V.getD (ii * te.size + j) undef = u := by simp only [Array.getD_eq_getD_getElem?, hu]; rfl
        rw [this]; exact hr) j c hc
      rw [hts]; exact this)
    (by omega) (by have := Nat.le_mul_of_pos_right len h1s; omega) (by rw [hel.size, hcl2, hts]; exact Nat.le_refl _) (.inl (Nat.le_refl _))
  obtain ⟨g2, h4, e2, _⟩ := h3.lay o.dst
  refine ⟨_, _, g2, _, _, .inl ?_, hk, h4, e1.trans e2⟩
  rw [hlen]
  have hps : (parts.map fun p => (p.1, a.eval p.2)).toList = parts.toList.map fun p => (p.1, a.eval p.2) := by simp
  have hrun := run_buildSlice (P := P) (w := w) (len := len) hu hi hz (ps := parts.map fun p => (p.1, a.eval p.2)) (V := V) (by rw [hisz]; omega) (by rw [hisz, hps]; exact hV)
  simp only [execOp, ho, Sem.run_bind]
  have hrun' : (Instr.buildSlice t len (parts.map fun x => match x with | (i, x) => (i, a.eval x))).run P w = .ok (.slice (some ⟨w.heap.size, 0, none⟩) len len) (w.alloc (.cells V e)) := hrun
  rw [hrun']
  rfl

/-- Where the parts of slot n + 1 go: into the struct in slot n, from 'off' on. -/
def mergeL (n off : Nat) : Loc → Loc
  | .env t 0 => if t = n + 1 then .env n (off + 1) else .env t 0
  | .env t (j + 1) => if t = n + 1 then .env n (off + j + 1) else .env t (j + 1)
  | ℓ => ℓ

theorem mergeL_other {n off t j : Nat} (h : t ≠ n + 1) : mergeL n off (.env t j) = .env t j := by cases j <;> simp [mergeL, h]
theorem mergeL_cell {n off m j : Nat} (h : m = 0 ∧ j = 0 ∨ m = j + 1) : mergeL n off (.env (n + 1) m) = .env n (off + j + 1) := by
  rcases h with ⟨rfl, rfl⟩ | rfl <;> simp [mergeL]

theorem Sim.merge {g env vals sto} {cs : List D} {vs : Array Value} {d : D} {v : Value} (h : Sim X g w ((env ++ [.agg cs]) ++ [d]) ((vals ++ [.agg vs]) ++ [v]) sto) (hn : d.cells ≠ []) {off : Nat}
    (hle : off + d.cells.length ≤ cs.length) {vs' : Array Value} (hsz : vs'.size = vs.size) (hget : ∀ k, vs'[k]? = if off ≤ k ∧ k < off + d.cells.length then v.cells[k - off]? else vs[k]?) :
    ∃ g', Sim X g' w (env ++ [.agg (splice cs off d.cells)]) (vals ++ [.agg vs']) sto ∧ Ext g w g' w ∧ g'.φ = g.φ ∧ g'.G = g.G := by
  have hl1 : (env ++ [D.agg cs]).length = (vals ++ [Value.agg vs]).length := by have := h.len; simpa using this
  have hl : env.length = vals.length := by simpa using hl1
  have hdv := h.rep (env ++ [D.agg cs]).length d v (by simp) (by rw [hl1]; simp)
  have hav := h.rep env.length (.agg cs) (.agg vs) (by rw [List.getElem?_append_left (by simp)]; simp) (by rw [List.getElem?_append_left (by simp [hl]), hl]; simp)
  obtain ⟨hcsz, hcr⟩ := cells_rep hdv hn
  have hspl : (splice cs off d.cells).length = cs.length := by simp [splice]; omega
  obtain ⟨havl, havr⟩ : vs.size = cs.length ∧ ∀ (j : Nat) c, cs[j]? = some c → RepV X g.φ g.G w c (vs.getD j undef) := by
    cases hav with | agg h1 h2 => exact ⟨h1, h2⟩
  have hout : ∀ j, (j < off ∨ off + d.cells.length ≤ j) → vs'.getD j undef = vs.getD j undef := fun j hj => by
    simp only [Array.getD_eq_getD_getElem?, hget j]; rw [if_neg (by omega)]
  have hin : ∀ j u, v.cells[j]? = some u → j < d.cells.length → vs'.getD (off + j) undef = u := fun j u hu hj => by
    simp only [Array.getD_eq_getD_getElem?, hget (off + j)]
    rw [if_pos ⟨by omega, by omega⟩, show off + j - off = j by omega, hu]; rfl
  refine ⟨_, h.re (mergeL env.length off) (fun _ => rfl) (by simp [hl]) ?_ ?_, .names _, rfl, rfl⟩
  · intro t d' u hd hu
    rcases getElem?_snoc hd with ⟨ht, hd⟩ | ⟨rfl, rfl⟩
    · rw [List.getElem?_append_left (hl ▸ ht)] at hu
      exact h.rep t d' u (by rw [List.getElem?_append_left (by simp; omega), List.getElem?_append_left ht]; exact hd) (by rw [List.getElem?_append_left (by simp; omega), List.getElem?_append_left (hl ▸ ht)]; exact hu)
    · rw [hl] at hu; simp at hu; subst hu
      refine .agg (by rw [hspl, hsz, havl]) (fun j c hj => ?_)
      by_cases hj2 : j < off ∨ off + d.cells.length ≤ j
      · rw [splice_get_out hle hj2] at hj
        rw [hout j hj2]; exact havr j c hj
      · obtain ⟨j', rfl⟩ : ∃ j', j = off + j' := ⟨j - off, by omega⟩
        rw [splice_get_in hle (by omega)] at hj
        obtain ⟨u, hu, hr⟩ := hcr j' c hj
        rw [hin j' u hu (by omega)]; exact hr
  · intro ℓ ty l aa len cap hoc
    cases ℓ with
    | env t j =>
      by_cases ht : t < env.length
      · refine ⟨.env t j, mergeL_other (by omega), hoc.shift ?_ ?_⟩
        · rw [List.getElem?_append_left (by simp; omega), List.getElem?_append_left ht, List.getElem?_append_left ht]
        · rw [List.getElem?_append_left (by simp; omega), List.getElem?_append_left (hl ▸ ht), List.getElem?_append_left (hl ▸ ht)]
      · have he : t = env.length := by have := hoc.lt; simp at this; omega
        subst he
        generalize hℓ : Loc.env env.length j = ℓ at hoc
        generalize hxx : D.sl .own ty l = xx at hoc
        generalize hyy : Value.slice (some aa) len cap = yy at hoc
        cases hoc with
        | leaf hd hv' => cases hℓ; simp at hd; subst hd; cases hxx
        | tup hd hv' hj' he => cases hℓ; simp at hd
        | cell => cases hℓ
        | agg hd hv' hj' he =>
          cases hℓ
          simp at hd; rw [hl] at hv'; simp at hv'
          subst hd; subst hv'; subst hxx; subst hyy
          rename_i j
          by_cases hj2 : j < off ∨ off + d.cells.length ≤ j
          · rw [splice_get_out hle hj2] at hj'
            rw [hout j hj2] at he
            exact ⟨.env env.length (j + 1), mergeL_other (by omega), .agg (cs := cs) (vs := vs) (by rw [List.getElem?_append_left (by simp)]; simp) (by rw [List.getElem?_append_left (by simp [hl]), hl]; simp) hj' he⟩
          · obtain ⟨j', rfl⟩ : ∃ j', j = off + j' := ⟨j - off, by omega⟩
            rw [splice_get_in hle (by omega)] at hj'
            obtain ⟨u, hu, hr⟩ := hcr j' _ hj'
            rw [hin j' u hu (by omega)] at he
            subst he
            obtain ⟨m, hm, hmj⟩ := Occ.of_cells (φ := g.φ) (w := w) (sto := sto) hl1 (fun _ => hcsz) hj' hu (rep_agg hdv) (rep_leaf hdv hn)
            have e : (env ++ [D.agg cs]).length = env.length + 1 := by simp
            rw [e] at hm
            exact ⟨_, mergeL_cell hmj, hm⟩
    | obj i => exact hoc.not_obj.elim
    | cell i j => exact ⟨.cell i j, rfl, hoc.of_slot (fun _ _ h => by cases h)⟩

theorem getD_hand {env hs : List D} {t : Nat} (ht : t < env.length) : (env ++ hs).getD t .any = env.getD t .any := by
  simp only [List.getD]; rw [List.getElem?_append_left ht]

/-- An operand comes to hand, behind what is in hand already. -/
theorem Sim.take2 {h1 : D} {v1 : Value} (hs : Sim X g w (env ++ [h1]) (a.tmps.toList ++ [v1]) sto) (x : Operand) (hne : (rd env x).cells ≠ []) :
    ∃ g', Sim X g' w ((left env x ++ [h1]) ++ [rd env x]) ((a.tmps.toList ++ [v1]) ++ [a.eval x]) sto ∧ Ext g w g' w ∧ g'.φ = g.φ ∧ g'.G = g.G := by
  have hl : env.length = a.tmps.toList.length := by have := hs.len; simpa using this
  have hr := hs.drop.read x
  cases x with
  | tmp t =>
    have ht : t < env.length := by
      rcases Nat.lt_or_ge t env.length with h | h
      · exact h
      · exfalso; apply hne
        show (env.getD t .any).cells = []
        rw [getD_out h]; rfl
    have hv : t < a.tmps.size := Nat.lt_of_lt_of_eq ht (hl.trans Array.length_toList)
    obtain ⟨g', h2, e, e1, e2⟩ := hs.hand (s := t) (d := env.getD t .any) (v := a.tmps.getD t undef) (by rw [List.getElem?_append_left ht]; exact rd_tmp_get ht)
      (by rw [List.getElem?_append_left (hl ▸ ht)]; simp [Array.getD, hv])
    refine ⟨g', ?_, e, e1, e2⟩
    rw [List.set_append_left _ _ ht] at h2
    exact h2
  | const v => exact ⟨g, hs.push _ _ hr (const_free v), .refl _ _, rfl, rfl⟩
  | func f => exact ⟨g, hs.push _ _ hr rfl, .refl _ _, rfl, rfl⟩
  | global b => exact absurd rfl hne

theorem fillS_sound {fs : List FI} {place : Nat → Option (Nat × Nat)} (hp : ∀ (i : Nat) fi, fs[i]? = some fi → place i = some (fi.off, fi.size)) :
    ∀ (parts : List (Nat × Operand)) (env env' : List D) (cs cs' : List D) (V : Array Value) (g : Gh), fillS fs env parts cs = some (cs', env') → Sim X g w (env ++ [.agg cs]) (a.tmps.toList ++ [.agg V]) sto →
      ∃ V' g', Instr.fill place V (parts.map fun p => (p.1, a.eval p.2)) = some V' ∧ Sim X g' w (env' ++ [.agg cs']) (a.tmps.toList ++ [.agg V']) sto ∧ Ext g w g' w
  | [], env, env', cs, cs', V, g, h, hs => by
    cases h; exact ⟨V, g, rfl, hs, .refl _ _⟩
  | (i, x) :: rest, env, env', cs, cs', V, g, h, hs => by
    unfold fillS at h
    split at h
    · rename_i fi hfi
      split at h
      · rename_i h1 h2
        obtain ⟨hl, hlv, h1s⟩ := fits_spec h1
        have hne : (rd env x).cells ≠ [] := by intro e; rw [e] at hl; simp at hl; omega
        have hle := Nat.le_of_ble_eq_true h2
        have hln : env.length = a.tmps.toList.length := by have := hs.len; simpa using this
        have hag := hs.rep env.length (.agg cs) (.agg V) (by simp) (by rw [hln]; simp)
        have hVs : V.size = cs.length := by cases hag with | agg h _ => exact h
        obtain ⟨hvs, _⟩ := cells_rep (hs.drop.read x) hne
        obtain ⟨V1, hf, hsz, hget⟩ := fill_one (V := V) (rest := rest.map fun p => (p.1, a.eval p.2)) (hp i fi hfi) (hvs.trans hl) (by rw [hVs]; omega)
        obtain ⟨g1, h3, e1, _⟩ := hs.take2 x hne
        obtain ⟨g2, h4, e2, _⟩ := h3.merge hne hle hsz (fun k => by rw [hget k, hl])
        obtain ⟨V', g', h5, h6, h7⟩ := fillS_sound hp rest _ env' _ cs' V1 g2 h h4
        exact ⟨V', g', by rw [List.map_cons, hf]; exact h5, h6, e1.trans (e2.trans h7)⟩
      · cases h
    · cases h

theorem run_places : ∀ {fs : List FI} {F : List Field}, fieldsB P fs F = true → (F.mapM fun f => (do pure (f.offset, ← sizeOf f.type) : Sem (Nat × Nat))).run P w = .ok (fs.map fun fi => (fi.off, fi.size)) w
  | [], [], _ => rfl
  | [], _ :: _, h => by cases h
  | _ :: _, [], h => by cases h
  | fi :: fs, f :: F, h => by
    rw [fieldsB, Bool.and_eq_true] at h
    obtain ⟨h1, h2⟩ := h
    have ih := run_places h2
    obtain ⟨fl, e1, e2, e3, _⟩ := field_get (P := P) (fs := [fi]) (F := #[f]) (by simp [fieldsB, h1]) (f := 0) (fi := fi) rfl
    simp at e1; subst e1
    rw [List.mapM_cons]
    simp only [Sem.run_bind, e3, Result.andThen_ok, Sem.run_pure, ih, e2]
    rfl

theorem op_build (hcx : CxOk P X cx) {t : TypeId} {parts : Array (Nat × Operand)} (ho : o.op = .build t parts) (hs : Sim X g w env a.tmps.toList sto) {ts : TE} {fs : List FI} {cs env' : List D}
    (h1 : look cx.tab t = some ts) (hd : ts.d = .struct fs) (hf : fillS fs env parts.toList ts.zero = some (cs, env')) (hk : k ⟨put env' o.dst (.agg cs), sto⟩ = some r) : OpOk P X o a w g k r := by
  obtain ⟨F, hu, hF⟩ := desc_struct hcx h1 hd
  have hte := hcx.tab _ _ h1
  obtain ⟨i, z, hi, _, _, hz, hzl⟩ := hte.info
  obtain ⟨hzlen, hzg⟩ := zeroL_spec hzl
  have hrep : RepV X g.φ g.G w (.agg ts.zero) (.agg z.cells) := .agg (by simpa using hzlen) (fun j c hj => by
    obtain ⟨u, hu, hz1⟩ := hzg j c hj
    have : (z.cells).getD j undef = u := by
      have hu' : z.cells[j]? = some u := by simpa using hu
      have := (Array.getElem?_eq_some_iff.1 hu')
      simp [Array.getD, this.1, this.2]
    rw [this]; exact (zero1_spec hz1).1)
  have hfree : (D.agg ts.zero).free = true := by
    simp only [D.free, List.all_eq_true]
    intro c hc
    obtain ⟨j, hj⟩ := List.mem_iff_getElem?.1 hc
    obtain ⟨u, hu, hz1⟩ := hzg j c hj
    unfold zero1 at hz1
    split at hz1 <;> first | rfl | cases hz1
  obtain ⟨V', g', h3, h4, e1⟩ := fillS_sound (a := a) (place := fun i => (fs.map fun fi => (fi.off, fi.size)).toArray[i]?) (fun i fi hfi => by simp [hfi]) parts.toList env env' ts.zero cs z.cells g hf (hs.push _ _ hrep hfree)
  obtain ⟨g2, h5, e2, _⟩ := h4.lay o.dst
  refine ⟨_, w, g2, _, _, .inl ?_, hk, h5, e1.trans e2⟩
  have hpl : (F.mapM fun f => (do pure (f.offset, ← sizeOf f.type) : Sem (Nat × Nat))).run P w = .ok (fs.map fun fi => (fi.off, fi.size)).toArray w := by
    rw [Array.mapM_eq_mapM_toList]
    have := run_places (w := w) hF
    simp only [map_eq_pure_bind, Sem.run_bind, this, Result.andThen_ok, Sem.run_pure]
  have hps : (parts.map fun p => (p.1, a.eval p.2)).toList = parts.toList.map fun p => (p.1, a.eval p.2) := by simp
  have hrun : (Instr.build t (parts.map fun p => (p.1, a.eval p.2))).run P w = .ok (.agg V') w := by
    unfold Instr.build
    have h3' : Instr.fill (fun x => (fs.map fun fi => (fi.off, fi.size)).toArray[x]?) z.cells (parts.map fun p => (p.1, a.eval p.2)).toList = some V' := by rw [hps]; exact h3
    simp only [Sem.run_bind, run_zero hi hz, run_underlying hu, Result.andThen_ok, hpl, h3', Sem.run_pure]
  simp only [execOp, ho, Sem.run_bind]
  have hrun' : (Instr.build t (parts.map fun x => match x with | (i, x) => (i, a.eval x))).run P w = .ok (.agg V') w := hrun
  rw [hrun']
  rfl

end
end Go.Ev

/-! Calls: what goes in, what comes back. -/
namespace Go.Ev
section
variable {P : Program} {X : Cfg} {R : Type} {w : World}
variable {g : Gh} {env : List D} {sto : Sto} {o : Oper} {a : Act} {k : St → Option R} {r : R} {cx : Cx}

/-- What a call leaves behind it. -/
def CallPost (X : Cfg) (g : Gh) (w : World) (K : D → Sto → Option R) (r : R) : Ending → World → Prop :=
  fun e w' => ∃ v d sto' g', e = .returned v ∧ K d sto' = some r ∧ Sim X g' w' [d] [v] sto' ∧ Ext g w g' w'

/-- A call, as an operation meets it: a function with a body, or one of the model's own. -/
def CallsOp (P : Program) (f : FuncId) (args : Array Value) (w : World) (Q : Ending → World → Prop) : Prop :=
  ((callFunc f args).run P w = .ok (.enter f args) w ∧ Calls P f args w Q) ∨ (∃ v w', (callFunc f args).run P w = .ok (.value v) w' ∧ Q (.returned v) w')

/-- The evaluator's way of calling is right. -/
def HcOk (P : Program) (X : Cfg) (hc : FuncId → List D → Sto → (D → Sto → Option R) → Option R) : Prop :=
  ∀ f args sto K r g w (vals : List Value), hc f args sto K = some r → Sim X g w args vals sto → CallsOp P f vals.toArray w (CallPost X g w K r)

theorem Sim.dropAll {g vals} : ∀ {H : List D} {HV : List Value}, env.length = vals.length → Sim X g w (env ++ H) (vals ++ HV) sto → Sim X g w env vals sto := by
  intro H HV hl h
  refine h.re_id hl ?_ ?_
  · intro t d v hd hv
    exact h.rep t d v (by rw [List.getElem?_append_left (List.getElem?_eq_some_iff.1 hd).1]; exact hd) (by rw [List.getElem?_append_left (List.getElem?_eq_some_iff.1 hv).1]; exact hv)
  · intro ℓ ty l a len cap ho
    cases ℓ with
    | env t j => exact ho.shift (List.getElem?_append_left ho.lt) (List.getElem?_append_left (hl ▸ ho.lt))
    | obj i => exact ho.not_obj.elim
    | cell i j => exact ho.of_slot (fun _ _ h => by cases h)

theorem argsOf_sound (want : List Nat) : ∀ (args : List Operand) (i : Nat) (env env' : List D) (ds H : List D) (HV : List Value) (g : Gh), argsOf env want i args = (ds, env') →
    env.length = a.tmps.toList.length → Sim X g w (env ++ H) (a.tmps.toList ++ HV) sto →
      ∃ g', Sim X g' w (env' ++ (H ++ ds)) (a.tmps.toList ++ (HV ++ args.map a.eval)) sto ∧ Ext g w g' w ∧ env'.length = a.tmps.toList.length
  | [], i, env, env', ds, H, HV, g, h, hl, hs => by
    cases h; exact ⟨g, by simpa using hs, .refl _ _, hl⟩
  | x :: rest, i, env, env', ds, H, HV, g, h, hl, hs => by
    have hr := (hs.dropAll hl).read x
    unfold argsOf at h
    simp only at h
    split at h
    · -- taken over
      rename_i hw
      generalize hrec : argsOf (left env x) want (i + 1) rest = p at h
      obtain ⟨ds', env2⟩ := p
      simp only at h
      cases h
      have htake : ∃ g', Sim X g' w (left env x ++ (H ++ [rd env x])) (a.tmps.toList ++ (HV ++ [a.eval x])) sto ∧ Ext g w g' w := by
        cases x with
        | tmp t =>
          by_cases ht : t < env.length
          · have hv : t < a.tmps.size := Nat.lt_of_lt_of_eq ht (hl.trans Array.length_toList)
            obtain ⟨g', h2, e, _⟩ := hs.hand (s := t) (d := env.getD t .any) (v := a.tmps.getD t undef) (by rw [List.getElem?_append_left ht]; exact rd_tmp_get ht)
              (by rw [List.getElem?_append_left (hl ▸ ht)]; simp [Array.getD, hv])
            refine ⟨g', ?_, e⟩
            rw [List.set_append_left _ _ ht, List.append_assoc, List.append_assoc] at h2
            exact h2
          · have e : rd env (.tmp t) = .any := getD_out (Nat.le_of_not_lt ht)
            have e2 : left env (.tmp t) = env := List.set_eq_of_length_le (Nat.le_of_not_lt ht)
            rw [e, e2, ← List.append_assoc, ← List.append_assoc]
            exact ⟨g, hs.push _ _ (.any _) rfl, .refl _ _⟩
        | const v => rw [← List.append_assoc, ← List.append_assoc]; exact ⟨g, hs.push _ _ hr (const_free v), .refl _ _⟩
        | func f => rw [← List.append_assoc, ← List.append_assoc]; exact ⟨g, hs.push _ _ hr rfl, .refl _ _⟩
        | global b => rw [← List.append_assoc, ← List.append_assoc]; exact ⟨g, hs.push _ _ hr rfl, .refl _ _⟩
      obtain ⟨g1, h1, e1⟩ := htake
      have hl2 : (left env x).length = a.tmps.toList.length := by rw [← hl]; cases x <;> simp [left]
      obtain ⟨g2, h3, e2, hl3⟩ := argsOf_sound want rest (i + 1) _ _ _ _ _ g1 hrec hl2 h1
      refine ⟨g2, ?_, e1.trans e2, hl3⟩
      simpa [List.append_assoc] using h3
    · rename_i hw
      generalize hrec : argsOf env want (i + 1) rest = p at h
      obtain ⟨ds', env2⟩ := p
      simp only at h
      cases h
      have h1 := hs.push _ _ hr.dup (dup_free _)
      rw [List.append_assoc, List.append_assoc] at h1
      obtain ⟨g2, h3, e2, hl3⟩ := argsOf_sound want rest (i + 1) _ _ _ _ _ g hrec hl h1
      refine ⟨g2, ?_, e2, hl3⟩
      simpa [List.append_assoc] using h3

theorem Sim.pushAll : ∀ {ds : List D} {vs : List Value} {env : List D} {vals : List Value}, Sim X g w env vals sto → ds.length = vs.length → (∀ (j : Nat) d v, ds[j]? = some d → vs[j]? = some v → RepV X g.φ g.G w d v ∧ d.free = true) →
    Sim X g w (env ++ ds) (vals ++ vs) sto
  | [], [], env, vals, h, _, _ => by simpa using h
  | [], _ :: _, _, _, _, h, _ => by cases h
  | _ :: _, [], _, _, _, h, _ => by cases h
  | d :: ds, v :: vs, env, vals, h, hl, hr => by
    obtain ⟨h1, h2⟩ := hr 0 d v rfl rfl
    have := Sim.pushAll (h.push d v h1 h2) (by simpa using hl) (fun j d v hd hv => hr (j + 1) d v (by simpa using hd) (by simpa using hv))
    simpa [List.append_assoc] using this

/-- The owners as the called function sees them: what is not handed over is nobody's. -/
def inner (g : Gh) (n : Nat) : Gh :=
  { g with κ := fun b => match g.κ b with
      | some (.env t j) => if t < n then none else some (.env (t - n) j)
      | x => x }

theorem inner_none {g : Gh} {n b : Nat} (h : g.κ b = none) : (inner g n).κ b = none := by simp [inner, h]

theorem Sim.enter {vals ds dv} (hl : env.length = vals.length) (h : Sim X g w (env ++ ds) (vals ++ dv) sto) : Sim X (inner g env.length) w ds dv sto := by
  have hocc : ∀ ℓ d v, Occ g.φ w ds dv sto ℓ d v → Occ g.φ w (env ++ ds) (vals ++ dv) sto (match ℓ with | .env t j => .env (env.length + t) j | ℓ => ℓ) d v := by
    intro ℓ d v ho
    cases ℓ with
    | env t j =>
      refine ho.shift (t' := env.length + t) ?_ ?_
      · rw [List.getElem?_append_right (by omega)]; congr 1; omega
      · rw [List.getElem?_append_right (by omega)]; congr 1; omega
    | obj i => exact ho.not_obj.elim
    | cell i j => exact ho.of_slot (fun _ _ h => by cases h)
  refine ⟨by have := h.len; simp at this; omega, ?_, h.slen, ?_, ?_, ?_, h.gdom⟩
  · intro t d v hd hv
    exact h.rep (env.length + t) d v (by rw [List.getElem?_append_right (by omega)]; rw [show env.length + t - env.length = t by omega]; exact hd)
      (by rw [List.getElem?_append_right (by omega)]; rw [show env.length + t - vals.length = t by omega]; exact hv)
  · intro i b cs hb hi
    obtain ⟨k, g0, cell⟩ := h.obj i b cs hb hi
    exact ⟨by simp [inner, k], g0, cell⟩
  · intro ℓ t l a len cap ho
    obtain ⟨k, gg, sp⟩ := h.own _ _ _ _ _ _ (hocc _ _ _ ho)
    refine ⟨?_, gg, sp⟩
    cases ℓ with
    | env t j => simp only at k; simp [inner, k]
    | obj i => exact ho.not_obj.elim
    | cell i j => simp only at k; simp [inner, k]
  · intro b ℓ hb
    cases hk : g.κ b with
    | none => simp [inner, hk] at hb
    | some ℓ' => exact h.kdom b ℓ' hk

/-- The owners behind the call. -/
def outer (g g1 : Gh) (n : Nat) : Nat → Option Loc := fun b =>
  match g.κ b with
  | some (.env t j) => if t < n then some (.env t j) else (g1.κ b).map fun ℓ => match ℓ with | .env t j => .env (n + t) j | ℓ => ℓ
  | _ => (g1.κ b).map fun ℓ => match ℓ with | .env t j => .env (n + t) j | ℓ => ℓ

theorem Sim.back {vals ds dv d v sto1} {w1 : World} {g1 : Gh} (hl : env.length = vals.length) (h : Sim X g w (env ++ ds) (vals ++ dv) sto) (h1 : Sim X g1 w1 [d] [v] sto1)
    (e : Ext (inner g env.length) w g1 w1) : ∃ g2, Sim X g2 w1 (env ++ [d]) (vals ++ [v]) sto1 ∧ Ext g w g2 w1 := by
  have hinn : ∀ b t j, g.κ b = some (.env t j) → t < env.length → (inner g env.length).κ b = none := fun b t j hk ht => by simp [inner, hk, ht]
  have hk1 : ∀ b ℓ, g1.κ b = some ℓ → outer g g1 env.length b = some (match ℓ with | .env t j => .env (env.length + t) j | ℓ => ℓ) := by
    intro b ℓ hb
    unfold outer
    split
    · rename_i t j hk
      split
      · rename_i ht
        have := e.kdom b (h.kdom b _ hk) (hinn b t j hk ht)
        rw [this] at hb; cases hb
      · rw [hb]; rfl
    · rw [hb]; rfl
  have hocc1 : ∀ {j : Nat} {ty : Ty} {l : List ty.den} {u : Value}, Occ g1.φ w1 (env ++ [d]) (vals ++ [v]) sto1 (.env env.length j) (.sl .own ty l) u → Occ g1.φ w1 [d] [v] sto1 (.env 0 j) (.sl .own ty l) u := by
    intro j ty l u ho
    refine ho.shift (t' := 0) ?_ ?_
    · simp
    · rw [hl]; simp
  let g2 : Gh := { φ := g1.φ, G := g1.G, κ := outer g g1 env.length }
  refine ⟨g2, ⟨by simp [hl], ?_, h1.slen, ?_, ?_, ?_, h1.gdom⟩, ⟨e.size, e.os, e.tape, e.output, fun b hb hn => e.blk b hb (inner_none hn), e.cell, e.gmono, fun b hb hn => e.gsame b hb (inner_none hn), ?_, e.φ⟩⟩
  · intro t d' v' hd hv
    rcases getElem?_snoc hd with ⟨ht, hd⟩ | ⟨rfl, rfl⟩
    · rw [List.getElem?_append_left (hl ▸ ht)] at hv
      have := h.rep t d' v' (by rw [List.getElem?_append_left ht]; exact hd) (by rw [List.getElem?_append_left (hl ▸ ht)]; exact hv)
      exact this.mono e.φ e.gmono e.cell
    · rw [hl] at hv; simp at hv; subst hv
      exact h1.rep 0 d' v rfl rfl
  · intro i b cs hb hi
    obtain ⟨k, g0, cell⟩ := h1.obj i b cs hb hi
    exact ⟨hk1 b _ k, g0, cell⟩
  · intro ℓ ty l aa len cap ho
    cases ℓ with
    | env t j =>
      by_cases ht : t < env.length
      · have ho' : Occ g.φ w (env ++ ds) (vals ++ dv) sto (.env t j) (.sl .own ty l) (.slice (some aa) len cap) := by
          have := ho.shift (env' := env ++ ds) (vals' := vals ++ dv) (t' := t) (by rw [List.getElem?_append_left ht, List.getElem?_append_left ht]) (by rw [List.getElem?_append_left (hl ▸ ht), List.getElem?_append_left (hl ▸ ht)])
          generalize hℓ : Loc.env t j = ℓ at this ⊢
          cases this with
          | leaf hd hv => exact .leaf hd hv
          | agg hd hv hj he => exact .agg hd hv hj he
          | tup hd hv hj he => exact .tup hd hv hj he
          | cell => cases hℓ
        obtain ⟨k, gg, sp⟩ := h.own _ _ _ _ _ _ ho'
        have hin := hinn _ _ _ k ht
        have hlt := h.kdom _ _ k
        have hblk := e.blk _ hlt hin
        refine ⟨by simp [g2, outer, k, ht], (e.gsame _ hlt hin).trans gg, fun jj h1 h2 => ?_⟩
        obtain ⟨⟨u, hu⟩, hf⟩ := sp jj h1 h2
        exact ⟨⟨u, by rw [World.cell?_of_block (w := w) (a := ⟨aa.block, aa.off + jj, none⟩) hblk]; exact hu⟩, by rw [World.frozen?_of_block (w := w) (a := ⟨aa.block, aa.off + jj, none⟩) hblk]; exact hf⟩
      · have he : t = env.length := by have := ho.lt; simp at this; omega
        subst he
        obtain ⟨k, gg, sp⟩ := h1.own _ _ _ _ _ _ (hocc1 ho)
        exact ⟨by have := hk1 _ _ k; simpa using this, gg, sp⟩
    | obj i => exact ho.not_obj.elim
    | cell i j =>
      obtain ⟨k, gg, sp⟩ := h1.own _ _ _ _ _ _ (ho.of_slot (env' := [d]) (vals' := [v]) (fun _ _ h => by cases h))
      exact ⟨hk1 _ _ k, gg, sp⟩
  · intro b ℓ hb
    have hb' : outer g g1 env.length b = some ℓ := hb
    cases hk : g1.κ b with
    | some ℓ' => exact h1.kdom b ℓ' hk
    | none =>
      unfold outer at hb'
      split at hb'
      · rename_i t j hk2
        exact Nat.lt_of_lt_of_le (h.kdom b _ hk2) e.size
      · rw [hk] at hb'; cases hb'
  · intro b hb hn
    have := e.kdom b hb (inner_none hn)
    show outer g g1 env.length b = none
    simp [outer, hn, this]

/-- The operation 'call'. -/
theorem op_call {hc : FuncId → List D → Sto → (D → Sto → Option R) → Option R} (hok : HcOk P X hc) {fo : Operand} {args : Array Operand} {ats : Array TypeId} (ho : o.op = .call { callee := .value fo, args, argTypes := ats })
    (hs : Sim X g w env a.tmps.toList sto) {f : FuncId} {caps : List D} {want : List Nat} (hf : rd env fo = .fn f caps) {ds env' : List D} (hargs : argsOf env want 0 args.toList = (ds, env'))
    (h : (hc f (ds ++ caps.map D.dup) sto fun d sto' => k ⟨put env' o.dst d, sto'⟩) = some r) {next : Act → World → Prop} {Q : Exit → Act → World → Prop}
    (hn : ∀ v w' g' env' sto', k ⟨env', sto'⟩ = some r → Sim X g' w' env' (putV a.tmps.toList o.dst v) sto' → Ext g w g' w' → next (a.put o.dst v) w') : o.wp P a w next Q := by
  obtain ⟨cv, hfv, hcv⟩ : ∃ cv : Array Value, a.eval fo = .func (.func f) #[] cv ∧ (cv.size = caps.length ∧ ∀ (j : Nat) c, caps[j]? = some c → RepV X g.φ g.G w c (cv.getD j undef)) := by
    have := hs.read fo
    rw [hf] at this
    generalize hv : a.eval fo = v at this
    cases this with
    | fn hl hr => exact ⟨_, rfl, hl, hr⟩
  obtain ⟨g1, h1, e1, hl⟩ := argsOf_sound (a := a) want args.toList 0 env env' ds [] [] g hargs hs.len (by simpa using hs)
  simp only [List.nil_append] at h1
  have h2 := Sim.pushAll (ds := caps.map D.dup) (vs := cv.toList) h1 (by simp [hcv.1]) (fun j d v hd hv => by
    simp only [List.getElem?_map, Option.map_eq_some_iff] at hd
    obtain ⟨c, hc0, rfl⟩ := hd
    have := hcv.2 j c hc0
    have e : cv.getD j undef = v := by
      have hv' : cv[j]? = some v := by simpa using hv
      simp only [Array.getD_eq_getD_getElem?, hv']; rfl
    rw [e] at this
    exact ⟨(this.mono e1.φ e1.gmono e1.cell).dup, dup_free _⟩)
  rw [List.append_assoc, List.append_assoc] at h2
  have h3 := h2.enter hl
  have hcall := hok f _ sto _ r _ w _ h h3
  have hvals : (args.toList.map a.eval ++ cv.toList).toArray = args.map a.eval ++ cv := by simp
  rw [hvals] at hcall
  have hrun : (execOp a.eval o).run P w = (callFunc f (args.map a.eval ++ cv)).run P w := by
    simp [execOp, ho, resolve, hfv, Deferred.ofValue, invoke]
  have fin : ∀ (v : Value) (w' : World), CallPost X (inner g1 env'.length) w (fun d sto' => k ⟨put env' o.dst d, sto'⟩) r (.returned v) w' → next (a.put o.dst v) w' := by
    intro v w' hp
    obtain ⟨v', d, sto', g', hv, hk, h4, e4⟩ := hp
    cases hv
    obtain ⟨g2, h5, e5⟩ := h2.back hl h4 e4
    obtain ⟨g3, h6, e6, _⟩ := h5.lay o.dst
    exact hn v w' g3 _ sto' hk h6 (e1.trans (e5.trans e6))
  unfold Oper.wp
  rw [hrun]
  rcases hcall with ⟨hc1, hc2⟩ | ⟨v, w', hc1, hc2⟩
  · rw [hc1]
    refine hc2.mono (fun e w' hp => ?_)
    have hp' := hp
    obtain ⟨v', d, sto', g', hv, _⟩ := hp'
    subst hv
    exact fin v' w' hp
  · rw [hc1]
    exact fin v w' hc2

end
end Go.Ev

/-! The operation, the region, the code. -/
namespace Go.Ev
section
variable {P : Program} {X : Cfg} {R : Type} {w : World}
variable {g : Gh} {env : List D} {sto : Sto} {o : Oper} {a : Act} {k : St → Option R} {r : R} {cx : Cx}

/-- What an operation is to show: it goes on with a state that the evaluator goes on with. -/
def OpTo (P : Program) (X : Cfg) (o : Oper) (a : Act) (w : World) (g : Gh) (k : St → Option R) (r : R) : Prop :=
  ∀ (next : Act → World → Prop) (Q : Exit → Act → World → Prop),
    (∀ v w' g' env' sto', k ⟨env', sto'⟩ = some r → Sim X g' w' env' (putV a.tmps.toList o.dst v) sto' → Ext g w g' w' → next (a.put o.dst v) w') → o.wp P a w next Q

theorem OpOk.to (h : OpOk P X o a w g k r) : OpTo P X o a w g k r := fun _ _ hn => h.wp hn

theorem evOp_sound (hcx : CxOk P X cx) {hc : FuncId → List D → Sto → (D → Sto → Option R) → Option R} (hok : HcOk P X hc) {rest : List Oper}
    (hs : Sim X g w env a.tmps.toList sto) (h : evOp cx hc rest o ⟨env, sto⟩ k = some r) : OpTo P X o a w g k r := by
  unfold evOp at h
  split at h
  · rename_i x ho
    split at h
    · exact (op_move x (.inl ho) hs h).to
    · exact (op_copy x ho hs h).to
  · rename_i x ho
    exact (op_move x (.inr ho) hs h).to
  · rename_i c x y ho
    split at h
    · rename_i t hc0
      split at h
      · exact (op_pick c x y ho hs true hc0 h).to
      · exact (op_pick c x y ho hs false hc0 h).to
    · cases h
  · rename_i t ho
    split at h
    · cases h
    · rename_i e hne ht
      have hte := hcx.tab _ _ ht
      refine (op_alloc t ho hs hte ?_ h).to
      intro e0
      obtain ⟨d, sz, by_, ag, ty, z⟩ := e
      simp only at e0
      subst e0
      exact hne _ _ _ _ _ rfl
    · cases h
  · rename_i t x ho
    split at h
    · split at h
      · rename_i hf
        obtain ⟨hl, _, h1⟩ := fits_spec hf
        exact (op_box t x ho hs (by intro e; rw [e] at hl; simp at hl; omega) h).to
      · cases h
    · cases h
  · rename_i t parts ho
    split at h
    · rename_i ht
      split at h
      · rename_i hf
        exact (op_build hcx ho hs ht rfl hf h).to
      · cases h
    · cases h
  · rename_i t len parts ho
    split at h
    · rename_i ht
      split at h
      · rename_i he
        split at h
        · rename_i hf
          split at h
          · rename_i hd
            split at h
            · rename_i hle
              exact (op_buildSlice hcx ho hs ht rfl he rfl hf hd (Nat.le_of_ble_eq_true hle) h).to
            · cases h
          · cases h
        · cases h
      · cases h
    · cases h
  · rename_i t x ho
    split at h
    · rename_i e ht
      have hte := hcx.tab _ _ ht
      split at h
      · rename_i i off hx
        split at h
        · rename_i cs hi
          split at h
          · rename_i hle
            have hle := Nat.le_of_ble_eq_true hle
            split at h
            · rename_i hag hst hlf
              have h1 := hte.one hag
              have hget : cs[off]? = some (cs.getD off .any) := by simp [List.getD, show off < cs.length by omega]
              exact (op_loadTake t x ho hs hte hag hx hi hget hlf h).to
            · exact (op_load t x ho hs hte hx hi hle h).to
          · cases h
        · cases h
      · rename_i cs hx
        split at h
        · rename_i hle
          exact (op_loadBox t x ho hs hte hx (Nat.le_of_ble_eq_true hle) h).to
        · cases h
      · cases h
    · cases h
  · rename_i t x y ho
    split at h
    · rename_i e ht
      have hte := hcx.tab _ _ ht
      split at h
      · rename_i i off hx
        split at h
        · rename_i cs hi
          split at h
          · rename_i hle hf
            exact (op_store t x y ho hs hte hx hi (Nat.le_of_ble_eq_true hle) hf h).to
          · cases h
        · cases h
      · cases h
    · cases h
  · rename_i x ho
    split at h
    · rename_i i off hx
      exact (op_nilCheck x ho hs (.inl ⟨_, _, hx⟩) (by rw [hx]; exact h)).to
    · rename_i cs hx
      exact (op_nilCheck x ho hs (.inr (.inl ⟨_, hx⟩)) (by rw [hx]; exact h)).to
    · rename_i f cs hx
      exact (op_nilCheck x ho hs (.inr (.inr ⟨_, _, hx⟩)) (by rw [hx]; exact h)).to
    · cases h
  · rename_i op t x y yt ho
    obtain ⟨d, v, hk, hf, hr, hrun⟩ := binK_sound (P := P) hcx h (hs.read x) (hs.read y) x y rfl
    refine (opOk_pure hs v d ?_ hr hf hk).to
    simp only [execOp, ho]
    rw [Sem.run_bind, hrun]; rfl
  · rename_i op t x ho
    obtain ⟨d, v, hk, hf, hr, hrun⟩ := unK_sound (P := P) (w := w) h (hs.read x)
    exact (opOk_pure hs v d (by simp [execOp, ho, hrun]) hr hf hk).to
  · rename_i src dst x ho
    split at h
    · rename_i m l hsrc heq hx
      have heq' := Nat.eq_of_beq_eq_true heq
      subst heq'
      split at h
      · rename_i he
        split at h
        · exact (op_convMark hcx ho hs (by simp) hsrc rfl he rfl hx h).to
        · cases h
      · cases h
    · unfold convK at h
      split at h
      · rename_i hsrc hdst hx
        exact (op_convInt hcx ho hs hsrc hdst rfl hx h).to
      · rename_i hsrc hdst hx
        exact (op_convStr hcx ho hs hsrc hdst rfl hx h).to
      · rename_i hsrc hdst hx
        split at h
        · rename_i he
          exact (op_convToBytes hcx ho hs hsrc hdst rfl he rfl hx h).to
        · cases h
      · rename_i hsrc hdst hx
        split at h
        · rename_i he
          exact (op_convBytes hcx ho hs hsrc rfl hdst rfl he rfl (.inl ⟨_, hx⟩) h).to
        · cases h
      · rename_i hsrc hdst hx
        split at h
        · rename_i he
          exact (op_convBytes hcx ho hs hsrc rfl hdst rfl he rfl (.inr ⟨hx, rfl⟩) h).to
        · cases h
      · cases h
  · rename_i t x lo hi mx ho
    split at h
    · rename_i hty
      exact (op_slice hcx t x lo hi mx ho hs hty h).to
    · cases h
  · rename_i t x f ho
    split at h
    · rename_i ht
      split at h
      · rename_i fi hfi
        split at h
        · rename_i i off hz hx
          exact (op_fieldAddr hcx t x f ho hs ht rfl hfi (by intro e; rw [e] at hz; cases hz) (.inl ⟨_, _, hx, h⟩)).to
        · rename_i cs hz hx
          split at h
          · rename_i hle
            exact (op_fieldAddr hcx t x f ho hs ht rfl hfi (by intro e; rw [e] at hz; cases hz) (.inr ⟨_, hx, Nat.le_of_ble_eq_true hle, h⟩)).to
          · cases h
        · cases h
      · cases h
    · cases h
  · rename_i t x f ho
    split at h
    · rename_i ht
      split at h
      · rename_i hfi hx
        split at h
        · rename_i hle
          exact (op_field hcx t x f ho hs ht rfl hfi hx (Nat.le_of_ble_eq_true hle) h).to
        · cases h
      · cases h
    · cases h
  · rename_i t x ix ho
    split at h
    · rename_i ht hx hi
      split at h
      · rename_i hty
        obtain ⟨e, he, hk⟩ := Option.bind_eq_some_iff.1 h
        exact (op_indexSl hcx t x ix ho hs hx hty hi he hk).to
      · cases h
    · rename_i ht hx hi
      split at h
      · rename_i hte
        split at h
        · rename_i hb
          exact (op_indexArr hcx t x ix ho hs ht rfl hte hx hi (of_decide_eq_true hb) h).to
        · cases h
      · cases h
    · cases h
  · rename_i t x ix ho
    split at h
    · rename_i ht hx hi
      obtain ⟨b, hb, hk⟩ := Option.bind_eq_some_iff.1 h
      exact (op_indexStr hcx t x ix ho hs ht rfl hx hi hb hk).to
    · rename_i ht hx hi
      split at h
      · rename_i hte
        split at h
        · rename_i hb hle
          exact (op_indexAgg hcx t x ix ho hs ht rfl hte hx hi (of_decide_eq_true hb) (Nat.le_of_ble_eq_true hle) h).to
        · cases h
      · cases h
    · cases h
  · rename_i x i ho
    split at h
    · rename_i cs hx
      split at h
      · rename_i c hc0
        split at h
        · rename_i hlf
          exact (op_extract ho hs hx hc0 (.inr hlf) h).to
        · have hr := hs.read x
          rw [hx] at hr
          generalize hv : a.eval x = v at hr
          cases hr with
          | tup hl hcr =>
            rename_i vs
            have hci := hcr i c hc0
            have hilt : i < vs.size := by rw [hl]; exact (List.getElem?_eq_some_iff.1 hc0).1
            exact (opOk_pure hs (vs.getD i undef) _ (by simp [execOp, ho, hv, Instr.extract, hilt]) hci.dup (dup_free _) h).to
      · cases h
    · cases h
  · rename_i f first caps ho
    split at h
    · rename_i hfirst
      have e : first = #[] := by apply Array.ext'; exact hfirst
      subst e
      exact (op_makeFunc ho hs h).to
    · cases h
  · rename_i args ats ho
    split at h
    · rename_i x t hargs hats
      have ho' : o.op = .call { callee := .builtin .len, args := #[x], argTypes := #[t] } := by
        rw [ho]
        have e1 : args = #[x] := by apply Array.ext'; exact hargs
        have e2 : ats = #[t] := by apply Array.ext'; exact hats
        rw [e1, e2]
      split at h
      · rename_i ht hx
        exact (op_len hcx ho' hs ht (.inl ⟨rfl, _, hx, rfl⟩) h).to
      · rename_i ht hx
        exact (op_len hcx ho' hs ht (.inr (.inl ⟨_, rfl, by rw [hx]; rfl, by rw [hx]; intro s h; cases h⟩)) h).to
      · rename_i ht hx
        exact (op_len hcx ho' hs ht (.inr (.inl ⟨_, rfl, by rw [hx]; rfl, by rw [hx]; intro s h; cases h⟩)) h).to
      · rename_i ht
        split at h
        · rename_i hle
          exact (op_len hcx ho' hs ht (.inr (.inr ⟨_, _, rfl, rfl, Nat.le_of_ble_eq_true hle⟩)) h).to
        · cases h
      · cases h
    · cases h
  · rename_i args ats ho
    split at h
    · rename_i x y t t2 hargs hats
      have ho' : o.op = .call { callee := .builtin .append, args := #[x, y], argTypes := #[t, t2] } := by
        rw [ho]
        have e1 : args = #[x, y] := by apply Array.ext'; exact hargs
        have e2 : ats = #[t, t2] := by apply Array.ext'; exact hats
        rw [e1, e2]
      have fin : ∀ d2, P.underlying t2 = some d2 → ((∃ e2, d2 = .slice e2) ∨ d2 = .string) → appendK cx t (rd env x) (rd env y) (fun d => k ⟨put (left env x) o.dst d, sto⟩) = some r → OpTo P X o a w g k r := by
        intro d2 ht2 hd2 h
        obtain ⟨g1, h1, e1, eφ, eG⟩ := hs.take x
        have hy : RepV X g1.φ g1.G w (rd env y) (a.eval y) := (hs.read y).mono e1.φ e1.gmono e1.cell
        obtain ⟨d, hk, v, w', g2, hrun, h2, e2⟩ := appendK_sound (P := P) (ty := o.type) hcx h h1 hy ht2 hd2
        obtain ⟨g3, h3, e3, _⟩ := h2.lay o.dst
        refine OpOk.to ⟨v, w', g3, _, _, .inl ?_, hk, h3, e1.trans (e2.trans e3)⟩
        simp [execOp, ho', resolve, invoke, builtin, hrun]
      split at h
      · rename_i ht2
        exact fin _ (desc_slice hcx ht2 rfl) (.inl ⟨_, rfl⟩) h
      · rename_i ht2
        exact fin _ (desc_str hcx ht2 rfl) (.inr rfl) h
      · cases h
    · cases h
  · rename_i fo args ats ho
    split at h
    · rename_i f caps hf
      generalize hargs : argsOf env ((look cx.want f).getD []) 0 args.toList = p at h
      obtain ⟨ds, env'⟩ := p
      intro next Q hn
      exact op_call hok ho hs hf hargs h hn
    · cases h
  · cases h

end
end Go.Ev

/-! Regions and code. -/
namespace Go.Ev
section
variable {P : Program} {X : Cfg} {R : Type} {cx : Cx}

theorem Sim.setSame {g : Gh} {w : World} {env : List D} {vals : List Value} {sto : Sto} (h : Sim X g w env vals sto) {t : Nat} {d : D} {v : Value} (hv : vals[t]? = some v) (hr : RepV X g.φ g.G w d v) (hf : d.free = true) :
    Sim X g w (env.set t d) vals sto := by
  have h1 := h.set t d v hr hf
  have e : vals.set t v = vals := by
    apply List.ext_getElem?; intro i
    by_cases e : t = i
    · subst e; rw [List.getElem?_set_self (List.getElem?_eq_some_iff.1 hv).1, hv]
    · rw [List.getElem?_set_ne e]
  rw [e] at h1; exact h1

theorem Sim.getB {g : Gh} {w : World} {env : List D} {sto : Sto} {a : Act} (h : Sim X g w env a.tmps.toList sto) {t : Nat} {d : D} (hd : env.getD t .any = d) (hne : d ≠ .any) :
    ∃ v, a.tmps[t]? = some v ∧ RepV X g.φ g.G w d v := by
  have ht : t < env.length := by
    rcases Nat.lt_or_ge t env.length with h' | h'
    · exact h'
    · rw [getD_out h'] at hd; exact absurd hd.symm hne
  have hv : t < a.tmps.size := Nat.lt_of_lt_of_eq ht (h.len.trans Array.length_toList)
  refine ⟨a.tmps[t], by simp [hv], ?_⟩
  have := h.rep t _ a.tmps[t] (rd_tmp_get ht) (by simp [hv])
  rw [hd] at this; exact this

theorem gOp_sound (hcx : CxOk P X cx) {hc : FuncId → List D → Sto → (D → Sto → Option R) → Option R} (hok : HcOk P X hc) {ops : Array Oper} {o : Oper} {Q : Exit → Act → World → Prop} {next : Act → World → Prop} {k : St → Option R} {r : R}
    {env : List D} {sto : Sto} {a : Act} {w : World} {g : Gh} (h : gOp cx hc ops o ⟨env, sto⟩ k = some r) (hs : Sim X g w env a.tmps.toList sto) (hd : a.defers = [])
    (hn : ∀ a' w' g' env' sto', k ⟨env', sto'⟩ = some r → Sim X g' w' env' a'.tmps.toList sto' → Ext g w g' w' → a'.defers = [] → next a' w') :
    if Region.wanted o (yielded ops a.tmps) then o.wp P a w next Q ∨ (o.asks P a w ∧ LetsOut Q) else next (a.put o.dst undef) w := by
  have run : ∀ env, evOp cx hc ops.toList o ⟨env, sto⟩ k = some r → Sim X g w env a.tmps.toList sto → o.wp P a w next Q := by
    intro env h hs
    refine evOp_sound hcx hok hs h _ _ (fun v w' g' env' sto' hk hs' he => ?_)
    rw [← Act.put_toList] at hs'
    exact hn _ w' g' env' sto' hk hs' he (by rw [Ev.Act.put_defers]; exact hd)
  have skip : ∀ env, k ⟨put env o.dst (.tup []), sto⟩ = some r → Sim X g w env a.tmps.toList sto → next (a.put o.dst undef) w := by
    intro env h hs
    have h1 := hs.put o.dst (.tup []) undef (.tup rfl (fun j c hj => by simp at hj)) rfl
    rw [← Act.put_toList] at h1
    exact hn _ w g _ sto h h1 (.refl _ _) (by rw [Ev.Act.put_defers]; exact hd)
  unfold gOp guardK at h
  split at h
  · rename_i hg
    rw [if_pos (by simp [Region.wanted, hg])]
    exact .inl (run env h hs)
  · rename_i j want hg
    split at h
    · rename_i d hdst
      have hy : ∀ b : Bool, a.tmps[d]? = some (.bool b) → yielded ops a.tmps j = some b := by
        intro b hb
        unfold dstOf at hdst
        simp [yielded, hdst, hb]
      have hset : ∀ b : Bool, env.getD d .any = .bool b → Sim X g w (env.set d (.bool b)) a.tmps.toList sto ∧ yielded ops a.tmps j = some b := by
        intro b hb
        obtain ⟨v, hv, hr⟩ := hs.getB hb (by intro h; cases h)
        have hvb := rep_bool hr
        subst hvb
        exact ⟨hs.setSame (by simpa using hv) (.bool b) rfl, hy b hv⟩
      split at h
      · rename_i b hb
        split at h
        · obtain ⟨h1, h2⟩ := hset true hb
          split at h
          · rw [if_pos (by simp [Region.wanted, hg, h2])]; exact .inl (run _ h h1)
          · rw [if_neg (by simp [Region.wanted, hg, h2])]; exact skip _ h h1
        · obtain ⟨h1, h2⟩ := hset false hb
          split at h
          · rw [if_neg (by simp [Region.wanted, hg, h2])]; exact skip _ h h1
          · rw [if_pos (by simp [Region.wanted, hg, h2])]; exact .inl (run _ h h1)
      · rename_i hb
        obtain ⟨v, hv, hr⟩ := hs.getB hb (by intro h; cases h)
        have hy2 : yielded ops a.tmps j = none := by
          unfold dstOf at hdst
          cases hr with
          | tup hl _ => simp [yielded, hdst, hv]
        rw [if_neg (by simp [Region.wanted, hg, hy2])]
        exact skip _ h hs
      · cases h
    · cases h

theorem evOps_sound (hcx : CxOk P X cx) {hc : FuncId → List D → Sto → (D → Sto → Option R) → Option R} (hok : HcOk P X hc) {ops : Array Oper} {Q : Exit → Act → World → Prop} {k : St → Option R} {r : R} :
    ∀ (rest : List Oper) (env : List D) (sto : Sto) (a : Act) (w : World) (g : Gh), evOps cx hc ops rest ⟨env, sto⟩ k = some r → Sim X g w env a.tmps.toList sto → a.defers = [] →
      (∀ a' w' g' env' sto', k ⟨env', sto'⟩ = some r → Sim X g' w' env' a'.tmps.toList sto' → Ext g w g' w' → a'.defers = [] → Q .normal a' w') → wpList P ops Q rest a w
  | [], env, sto, a, w, g, h, hs, hd, hq => hq a w g env sto h hs (.refl _ _) hd
  | o :: rest, env, sto, a, w, g, h, hs, hd, hq => by
    unfold wpList
    exact gOp_sound hcx hok h hs hd (fun a' w' g' env' sto' hk hs' he hd' => evOps_sound hcx hok rest env' sto' a' w' g' hk hs' hd' (fun a2 w2 g2 env2 sto2 hk2 hs2 he2 hd2 => hq a2 w2 g2 env2 sto2 hk2 hs2 (he.trans he2) hd2))

/-- What code is to show behind it. -/
def CPost (X : Cfg) (g : Gh) (w : World) (k : Exit → St → Option R) (r : R) : Exit → Act → World → Prop :=
  fun e a' w' => ∃ env sto g', k e ⟨env, sto⟩ = some r ∧ Sim X g' w' env a'.tmps.toList sto ∧ Ext g w g' w' ∧ a'.defers = []

/-- The contract of a loop is what the rounds come to. -/
def LOk (cx : Cx) (hc : (R : Type) → FuncId → List D → Sto → (D → Sto → Option R) → Option R) (keep : List (Nat × LH)) (c : Code) : Prop :=
  ∀ lh lc, (firstRegion c).bind (look keep) = some lh → lh.con = some lc → ∀ (R : Type) (st : St) (n0 : Nat) (k : Exit → St → Option R) (r : R), lc R (norm lh n0 st) k = some r →
    ∃ n, loopN (fun st k => evCode cx (hc R) keep c st k) (norm lh n0) k n (norm lh n0 st) = some r

def Wk (d d' : D) : Prop := d' = d ∨ d' = .any ∨ ∃ s : Sh, d' = s.on d

theorem sh_rep {φ G} {w : World} (s : Sh) {d : D} {v : Value} (h : RepV X φ G w d v) : RepV X φ G w (s.on d) v := by
  unfold Sh.on
  split
  · exact h
  · cases h; exact .slNil
  · exact h
  · cases h; exact .slNil
  · exact h.dup1
  · exact h

theorem wk_rep {φ G} {w : World} {d d' : D} (hw : Wk d d') {v : Value} (h : RepV X φ G w d v) : RepV X φ G w d' v := by
  rcases hw with rfl | rfl | ⟨s, rfl⟩
  · exact h
  · exact .any v
  · exact sh_rep s h

/-- What is owned in a weaker shape was owned before. -/
theorem wk_own {φ G} {w : World} {d d' : D} (hw : Wk d d') {v : Value} (h : RepV X φ G w d v) : d' = d ∨ (∀ ty l a len cap, d' = .sl .own ty l → v ≠ .slice (some a) len cap) ∧ (∀ cs, d' ≠ .agg cs) ∧ (∀ cs, d' ≠ .tup cs) := by
  rcases hw with rfl | rfl | ⟨s, rfl⟩
  · exact .inl rfl
  · exact .inr ⟨(fun _ _ _ _ _ h => by cases h), (fun _ h => by cases h), (fun _ h => by cases h)⟩
  · unfold Sh.on
    split
    · exact .inl rfl
    · refine .inr ⟨fun _ _ _ _ _ _ => ?_, (fun _ h => by cases h), (fun _ h => by cases h)⟩
      cases h; intro h; cases h
    · exact .inl rfl
    · exact .inr ⟨(fun _ _ _ _ _ h => by cases h), (fun _ h => by cases h), (fun _ h => by cases h)⟩
    · exact .inr ⟨(fun _ _ _ _ _ h => by cases h), (fun _ h => by cases h), (fun _ h => by cases h)⟩
    · exact .inl rfl

/-- Slots and objects in weaker shapes. -/
theorem Sim.weaken {g : Gh} {w : World} {env env' : List D} {vals : List Value} {sto sto' : Sto} (h : Sim X g w env vals sto) (hl : env'.length = env.length)
    (he : ∀ (t : Nat) d', env'[t]? = some d' → ∃ d, env[t]? = some d ∧ Wk d d') (hsl : sto'.length = sto.length)
    (hso : ∀ (i : Nat) cs', sto'[i]? = some cs' → ∃ cs, sto[i]? = some cs ∧ ∀ (j : Nat) d', cs'[j]? = some d' → ∃ d, cs[j]? = some d ∧ Wk d d') : Sim X g w env' vals sto' := by
  have hobj : ∀ (i : Nat) b cs', g.φ[i]? = some b → sto'[i]? = some cs' → SimO X g w i b cs' := by
    intro i b cs' hb hi
    obtain ⟨cs, hi0, hcs⟩ := hso i cs' hi
    obtain ⟨k, g0, cell⟩ := h.obj i b cs hb hi0
    refine ⟨k, g0, fun j d' hj => ?_⟩
    obtain ⟨d, hd, hw⟩ := hcs j d' hj
    obtain ⟨v, hv, hf, hr⟩ := cell j d hd
    exact ⟨v, hv, hf, wk_rep hw hr⟩
  refine ⟨hl.trans h.len, fun t d' v hd hv => ?_, by rw [hsl]; exact h.slen, hobj, ?_, h.kdom, h.gdom⟩
  · obtain ⟨d, hd0, hw⟩ := he t d' hd
    exact wk_rep hw (h.rep t d v hd0 hv)
  · intro ℓ ty l a len cap ho
    suffices ho' : Occ g.φ w env vals sto ℓ (.sl .own ty l) (.slice (some a) len cap) from h.own _ _ _ _ _ _ ho'
    generalize hx : D.sl .own ty l = x at ho
    generalize hy : Value.slice (some a) len cap = y at ho
    cases ho with
    | leaf hd hv =>
      obtain ⟨d, hd0, hw⟩ := he _ _ hd
      rcases wk_own hw (h.rep _ d _ hd0 hv) with rfl | ⟨h1, _⟩
      · exact .leaf hd0 hv
      · exact absurd hy.symm (h1 _ _ _ _ _ hx.symm)
    | agg hd hv hj he' =>
      obtain ⟨d, hd0, hw⟩ := he _ _ hd
      rcases wk_own hw (h.rep _ d _ hd0 hv) with e | ⟨_, h2, _⟩
      · rw [← e] at hd0; exact .agg hd0 hv hj he'
      · exact absurd rfl (h2 _)
    | tup hd hv hj he' =>
      obtain ⟨d, hd0, hw⟩ := he _ _ hd
      rcases wk_own hw (h.rep _ d _ hd0 hv) with e | ⟨_, _, h2⟩
      · rw [← e] at hd0; exact .tup hd0 hv hj he'
      · exact absurd rfl (h2 _)
    | cell hi hb hj hv =>
      obtain ⟨cs, hi0, hcs⟩ := hso _ _ hi
      obtain ⟨d, hd0, hw⟩ := hcs _ _ hj
      obtain ⟨v, hv0, _, hr⟩ := (h.obj _ _ cs hb hi0).cell _ d hd0
      rw [hv0] at hv; cases hv
      rcases wk_own hw hr with rfl | ⟨h1, _⟩
      · exact .cell hi0 hb hd0 hv0
      · exact absurd hy.symm (h1 _ _ _ _ _ hx.symm)

end
end Go.Ev

/-! Operations that may change places: what each reads, lays and leaves. No world in sight. -/
namespace Go.Ev
section
variable {R : Type} {cx : Cx}

def Chg (S : List Nat) (env env' : List D) : Prop := env'.length = env.length ∧ ∀ t, t ∉ S → env'[t]? = env[t]?

theorem Chg.refl (S : List Nat) (env : List D) : Chg S env env := ⟨rfl, fun _ _ => rfl⟩
theorem Chg.trans {S : List Nat} {a b c : List D} (h : Chg S a b) (k : Chg S b c) : Chg S a c := ⟨k.1.trans h.1, fun t ht => (k.2 t ht).trans (h.2 t ht)⟩
theorem Chg.mono {S S' : List Nat} {a b : List D} (h : Chg S a b) (hs : ∀ t, t ∈ S → t ∈ S') : Chg S' a b := ⟨h.1, fun t ht => h.2 t (fun h' => ht (hs t h'))⟩
theorem Chg.set {S : List Nat} {t : Nat} (ht : t ∈ S) (env : List D) (d : D) : Chg S env (env.set t d) :=
  ⟨by simp, fun s hs => List.getElem?_set_ne (fun e => hs (by rw [← e]; exact ht))⟩

theorem rd_set {env : List D} {t : Nat} {d : D} {x : Operand} (h : t ∉ tmpOf x) : rd (env.set t d) x = rd env x := by
  cases x with
  | tmp s => have hne : t ≠ s := fun e => h (by simp [tmpOf, e]); simp [rd, List.getD, List.getElem?_set_ne hne]
  | _ => rfl

theorem left_set {env : List D} {t : Nat} {d : D} {x : Operand} (h : t ∉ tmpOf x) : left (env.set t d) x = (left env x).set t d := by
  cases x with
  | tmp s =>
    have hne : t ≠ s := fun e => h (by simp [tmpOf, e])
    have := rd_set (env := env) (d := d) h
    simp only [rd] at this
    simp only [left, this]
    exact List.set_comm _ _ hne
  | _ => rfl

theorem put_set {env : List D} {t : Nat} {d v : D} {o : Option Tmp} (h : t ∉ dstT o) : put (env.set t d) o v = (put env o v).set t d := by
  cases o with
  | none => rfl
  | some s => have hne : t ≠ s := fun e => h (by simp [dstT, e]); exact List.set_comm _ _ hne

theorem Chg.left {S : List Nat} {x : Operand} (h : ∀ t, t ∈ tmpOf x → t ∈ S) (env : List D) : Chg S env (left env x) := by
  cases x with
  | tmp s => exact .set (h s (by simp [tmpOf])) _ _
  | _ => exact .refl _ _

theorem Chg.put {S : List Nat} {o : Option Tmp} (h : ∀ t, t ∈ dstT o → t ∈ S) (env : List D) (v : D) : Chg S env (put env o v) := by
  cases o with
  | none => exact .refl _ _
  | some s => exact .set (h s (by simp [dstT])) _ _

/-- What comes of it is one state, or none. -/
def NF (S : List Nat) (calm : Bool) (st : St) (X : (St → Option R) → Option R) : Prop :=
  ∃ s : Option St, (∀ k, X k = s.bind k) ∧ ∀ st', s = some st' → Chg S st.env st'.env ∧ (calm = true → st'.sto = st.sto)

structure OpFoot (cx : Cx) (hc : FuncId → List D → Sto → (D → Sto → Option R) → Option R) (all : List Oper) (o : Oper) (f : Foot) : Prop where
  nf : ∀ st, NF (dstT o.dst ++ f.wr) f.calm st (evOp cx hc all o st)
  loc : ∀ (t : Nat) d env sto k, t ∉ f.rd → t ∉ dstT o.dst → t ∉ f.wr → evOp cx hc all o ⟨env.set t d, sto⟩ k = evOp cx hc all o ⟨env, sto⟩ (fun st' => k ⟨st'.env.set t d, st'.sto⟩)
  sf : f.apart = true → ∀ env sto sto' k, evOp cx hc all o ⟨env, sto'⟩ k = evOp cx hc all o ⟨env, sto⟩ (fun st' => k ⟨st'.env, sto'⟩)

def Bnd (V : (D → Option R) → Option R) : Prop := ∃ s : Option D, ∀ k, V k = s.bind k

theorem Bnd.none : Bnd (R := R) fun _ => none := ⟨.none, fun _ => rfl⟩
theorem Bnd.pure (d : D) : Bnd (R := R) fun k => k d := ⟨some d, fun _ => rfl⟩

variable {hc : FuncId → List D → Sto → (D → Sto → Option R) → Option R} {all : List Oper} {o : Oper} {f : Foot}

/-- The value comes of the slots that are read; it is laid into its slot; beside that, a slot may be left. -/
theorem foot_val (V : List D → (D → Option R) → Option R) (L : List D → List D) (hev : ∀ env sto k, evOp cx hc all o ⟨env, sto⟩ k = V env (fun d => k ⟨put (L env) o.dst d, sto⟩)) (hb : ∀ env, Bnd (V env))
    (hl : ∀ env (t : Nat) d, t ∉ f.rd → V (env.set t d) = V env) (hL : ∀ env, Chg f.wr env (L env)) (hLs : ∀ env (t : Nat) d, t ∉ f.rd → t ∉ f.wr → L (env.set t d) = (L env).set t d) : OpFoot cx hc all o f := by
  refine ⟨fun st => ?_, fun t d env sto k h1 h2 h3 => ?_, fun _ env sto sto' k => ?_⟩
  · obtain ⟨s, hs⟩ := hb st.env
    refine ⟨s.map fun d => ⟨put (L st.env) o.dst d, st.sto⟩, fun k => ?_, fun st' h => ?_⟩
    · rw [show st = ⟨st.env, st.sto⟩ from rfl, hev, hs]; cases s <;> rfl
    · cases s with
      | none => cases h
      | some d =>
        cases h
        exact ⟨((hL st.env).mono (fun t h => List.mem_append_right _ h)).trans (.put (fun t h => List.mem_append_left _ h) _ _), fun _ => rfl⟩
  · rw [hev, hev, hl env t d h1, hLs env t d h1 h3]
    simp only [put_set h2]
  · rw [hev, hev]

theorem foot_plain (V : List D → (D → Option R) → Option R) (hev : ∀ env sto k, evOp cx hc all o ⟨env, sto⟩ k = V env (fun d => k ⟨put env o.dst d, sto⟩)) (hb : ∀ env, Bnd (V env))
    (hl : ∀ env (t : Nat) d, t ∉ f.rd → V (env.set t d) = V env) : OpFoot cx hc all o f :=
  foot_val V id hev hb hl (fun _ => .refl _ _) (fun _ _ _ _ _ => rfl)

theorem foot_left (V : List D → (D → Option R) → Option R) (x : Operand) (hx : ∀ t, t ∈ tmpOf x → t ∈ f.wr) (hev : ∀ env sto k, evOp cx hc all o ⟨env, sto⟩ k = V env (fun d => k ⟨put (left env x) o.dst d, sto⟩)) (hb : ∀ env, Bnd (V env))
    (hl : ∀ env (t : Nat) d, t ∉ f.rd → V (env.set t d) = V env) : OpFoot cx hc all o f :=
  foot_val V (left · x) hev hb hl (fun env => .left hx env) (fun env t d _ h => left_set (fun h' => h (hx t h')))

theorem binK_bnd (op : BinOp) (t : TypeId) (lit : Bool) (x y : D) : Bnd (R := R) (binK cx op t lit x y) := by
  have ifk : ∀ (kx ky : IntKind) (d : D), Bnd (R := R) fun k => if kx = ky then k d else none := by
    intro kx ky d
    by_cases h : kx = ky
    · exact ⟨some d, fun k => (if_pos h).trans rfl⟩
    · exact ⟨none, fun k => (if_neg h).trans rfl⟩
  have ifd : ∀ (b : Bool) (d : D), Bnd (R := R) fun k => match b with | true => k d | false => none := by
    intro b d; cases b
    · exact ⟨none, fun _ => rfl⟩
    · exact ⟨some d, fun _ => rfl⟩
  have ifz : ∀ (kx ky : IntKind) (b : Bool) (d : D), Bnd (R := R) fun k => if kx = ky then (match b with | true => none | false => k d) else none := by
    intro kx ky b d
    by_cases h : kx = ky
    · cases b
      · exact ⟨some d, fun k => (if_pos h).trans rfl⟩
      · exact ⟨none, fun k => (if_pos h).trans rfl⟩
    · exact ⟨none, fun k => (if_neg h).trans rfl⟩
  have eqb : ∀ (e : Option Bool) (f : Bool → D), Bnd (R := R) fun k => match e with | some b => k (f b) | none => none := by
    intro e f; cases e
    · exact ⟨none, fun _ => rfl⟩
    · exact ⟨some _, fun _ => rfl⟩
  cases op
  case eql => exact eqb (eqD cx t lit x y) (fun b => .bool b)
  case neq => exact eqb (eqD cx t lit x y) (fun b => .bool (!b))
  all_goals
    cases x <;> first
      | exact .none
      | (cases y <;> first
          | exact .none
          | exact .pure _
          | exact ifk _ _ _
          | exact ifd _ _
          | exact ifz _ _ _ _)

theorem unK_bnd (op : UnOp) (x : D) : Bnd (R := R) (unK op x) := by
  cases op <;> cases x <;> first | exact .none | exact .pure _

theorem Bnd.of {V : (D → Option R) → Option R} (s : Option D) (h : ∀ k, V k = s.bind k) : Bnd V := ⟨s, h⟩

theorem convK_bnd (src dst : TypeId) (x : D) : Bnd (R := R) (convK cx src dst x) := by
  refine .of (convK cx src dst x some) (fun k => ?_)
  unfold convK
  split <;> (try rfl)
  all_goals (split <;> rfl)

theorem boundK_bnd (x : D) (hi : Nat) {V : Nat → (D → Option R) → Option R} (hV : ∀ n, Bnd (V n)) : Bnd (R := R) fun k => boundK x hi fun n => V n k := by
  cases x <;> first
    | exact .none
    | skip
  rename_i kd n
  show Bnd fun k => match decide (0 ≤ n ∧ n ≤ (hi : Int)) with | true => V n.toNat k | false => none
  cases decide (0 ≤ n ∧ n ≤ (hi : Int))
  · exact .none
  · exact hV _

theorem optK_bnd (x : Option D) (d hi : Nat) {V : Nat → (D → Option R) → Option R} (hV : ∀ n, Bnd (V n)) : Bnd (R := R) fun k => optK x d hi fun n => V n k := by
  cases x with
  | none => exact hV d
  | some x => exact boundK_bnd x hi hV

theorem cut_bnd (lo hi : Option D) (d : Nat) (F : Nat → Nat → D) : Bnd (R := R) fun k => optK hi d d fun h => optK lo 0 h fun l => k (F h l) :=
  optK_bnd (V := fun h k => optK lo 0 h fun l => k (F h l)) hi d d fun h => optK_bnd (V := fun l k => k (F h l)) lo 0 h fun l => .pure _

theorem sliceK_bnd (x : D) (lo hi mx : Option D) : Bnd (R := R) (sliceK x lo hi mx) := by
  cases x
  case str s =>
    cases mx
    · exact cut_bnd lo hi s.length fun h l => .str ((s.take h).drop l)
    · exact .none
  case nils =>
    cases mx
    · exact cut_bnd lo hi 0 fun _ _ => .nils
    · exact .none
  case sl m t s =>
    cases mx with
    | none => exact cut_bnd lo hi s.length fun h l => .sl .ro t ((s.take h).drop l)
    | some mx =>
      cases mx
      case int k1 m1 =>
        cases hi with
        | none => exact .none
        | some hi =>
          cases hi
          case int k2 h2 =>
            show Bnd fun k => match decide (h2 = m1) with
              | true => boundK (.int .i64 h2) s.length fun h => optK lo 0 h fun l => k (.sl .cap t ((s.take h).drop l))
              | false => none
            cases decide (h2 = m1)
            · exact .none
            · exact boundK_bnd (V := fun h k => optK lo 0 h fun l => k (.sl .cap t ((s.take h).drop l))) _ _ fun h => optK_bnd (V := fun l k => k (.sl .cap t ((s.take h).drop l))) lo 0 h fun l => .pure _
          all_goals exact .none
      all_goals exact .none
  all_goals exact .none

theorem appendK_bnd (st : TypeId) (x y : D) : Bnd (R := R) (appendK cx st x y) := by
  refine .of (appendK cx st x y some) (fun k => ?_)
  unfold appendK
  split
  · split
    · split
      · split
        · split <;> rfl
        · split
          · split <;> rfl
          · rfl
        · split
          · split <;> rfl
          · rfl
        · rfl
      · rfl
    · rfl
  · rfl

end
end Go.Ev

namespace Go.Ev
section
variable {R : Type} {cx : Cx}
variable {hc : FuncId → List D → Sto → (D → Sto → Option R) → Option R} {all : List Oper} {o : Oper} {f : Foot}

theorem out_cons {t : Nat} {x : Operand} {r : List Operand} (h : t ∉ tmpsOf (x :: r)) : t ∉ tmpOf x ∧ t ∉ tmpsOf r := by
  simp only [tmpsOf, List.mem_append, not_or] at h; exact h

theorem argsOf_set {want : List Nat} {t : Nat} {d : D} : ∀ (args : List Operand) (i : Nat) (env : List D), t ∉ tmpsOf args → argsOf (env.set t d) want i args = ((argsOf env want i args).1, (argsOf env want i args).2.set t d)
  | [], i, env, _ => rfl
  | x :: r, i, env, h => by
    obtain ⟨h1, h2⟩ := out_cons h
    unfold argsOf
    simp only [rd_set h1, left_set h1]
    cases want.any (Nat.beq i)
    · simp only [argsOf_set r (i + 1) env h2]
    · simp only [argsOf_set r (i + 1) (left env x) h2]

theorem argsOf_chg {want : List Nat} : ∀ (args : List Operand) (i : Nat) (env : List D), Chg (tmpsOf args) env (argsOf env want i args).2
  | [], i, env => .refl _ _
  | x :: r, i, env => by
    unfold argsOf
    simp only
    cases want.any (Nat.beq i)
    · exact (argsOf_chg r (i + 1) env).mono (fun t h => by simp [tmpsOf, h])
    · exact (Chg.left (fun t h => by simp [tmpsOf, h]) env).trans ((argsOf_chg r (i + 1) (left env x)).mono (fun t h => by simp [tmpsOf, h]))

theorem fillS_set {fs : List FI} {t : Nat} {d : D} : ∀ (parts : List (Nat × Operand)) (env cs : List D), t ∉ tmpsOf (parts.map (·.2)) → fillS fs (env.set t d) parts cs = (fillS fs env parts cs).map fun p => (p.1, p.2.set t d)
  | [], env, cs, _ => rfl
  | (i, x) :: r, env, cs, h => by
    obtain ⟨h1, h2⟩ := out_cons (x := x) (r := r.map (·.2)) h
    unfold fillS
    rw [rd_set h1, left_set h1]
    cases fs[i]? with
    | none => rfl
    | some fi =>
      simp only
      cases fits (rd env x).cells fi.size
      · rfl
      · cases Nat.ble (fi.off + (rd env x).cells.length) cs.length
        · rfl
        · exact fillS_set r _ _ h2

theorem fillS_chg {fs : List FI} : ∀ (parts : List (Nat × Operand)) (env cs : List D) (p), fillS fs env parts cs = some p → Chg (tmpsOf (parts.map (·.2))) env p.2
  | [], env, cs, p, h => by cases h; exact .refl _ _
  | (i, x) :: r, env, cs, p, h => by
    unfold fillS at h
    split at h
    · split at h
      · exact (Chg.left (fun t h => by simp [tmpsOf, h]) env).trans ((fillS_chg r _ _ p h).mono (fun t h => by simp [tmpsOf] at h ⊢; exact .inr h))
      · cases h
    · cases h

theorem fillL_set {sz : Nat} {t : Nat} {d : D} : ∀ (parts : List (Nat × Operand)) (env : List D) (cs : List (List D)), t ∉ tmpsOf (parts.map (·.2)) → fillL sz (env.set t d) parts cs = fillL sz env parts cs
  | [], env, cs, _ => rfl
  | (i, x) :: r, env, cs, h => by
    obtain ⟨h1, h2⟩ := out_cons (x := x) (r := r.map (·.2)) h
    unfold fillL
    simp only [rd_set h1, fillL_set r env _ h2]

/-- Whatever an operation does, by what it yields. -/
theorem foot_gen (W : List D → Sto → Option (D × List D × Sto)) (hev : ∀ env sto k, evOp cx hc all o ⟨env, sto⟩ k = (W env sto).bind fun p => k ⟨put p.2.1 o.dst p.1, p.2.2⟩)
    (hW : ∀ env sto (t : Nat) d, t ∉ f.rd → t ∉ f.wr → W (env.set t d) sto = (W env sto).map fun p => (p.1, p.2.1.set t d, p.2.2))
    (hch : ∀ env sto p, W env sto = some p → Chg f.wr env p.2.1 ∧ (f.calm = true → p.2.2 = sto)) (ha : f.apart = false) : OpFoot cx hc all o f := by
  refine ⟨fun st => ?_, fun t d env sto k h1 h2 h3 => ?_, fun h => by rw [ha] at h; cases h⟩
  · refine ⟨(W st.env st.sto).map fun p => ⟨put p.2.1 o.dst p.1, p.2.2⟩, fun k => ?_, fun st' h => ?_⟩
    · rw [show st = ⟨st.env, st.sto⟩ from rfl, hev]; cases W st.env st.sto <;> rfl
    · cases hw : W st.env st.sto with
      | none => rw [hw] at h; cases h
      | some p =>
        rw [hw] at h; cases h
        obtain ⟨h1, h2⟩ := hch _ _ p hw
        exact ⟨(h1.mono (fun t h => List.mem_append_right _ h)).trans (.put (fun t h => List.mem_append_left _ h) _ _), h2⟩
  · rw [hev, hev, hW env sto t d h1 h3]
    cases W env sto with
    | none => rfl
    | some p => simp only [Option.map_some, Option.bind_some, put_set h2]

theorem foot_move {x : Operand} (ho : o.op = .move x) (h : footOf cx all o = some f) : OpFoot cx hc all o f := by
  unfold footOf at h
  rw [ho] at h
  simp only at h
  cases hs : stealsDst cx.want all o.dst
  · rw [hs] at h; cases h
    refine foot_plain (fun env k => k (rd env x).dup) (fun env sto k => ?_) (fun env => .pure _) (fun env t d h => ?_)
    · unfold evOp; simp only [ho, hs]
    · simp only [rd_set h]
  · rw [hs] at h; cases h
    refine foot_left (fun env k => k (rd env x)) x (fun _ h => h) (fun env sto k => ?_) (fun env => .pure _) (fun env t d h => ?_)
    · unfold evOp; simp only [ho, hs]
    · simp only [rd_set h]

theorem foot_assign {x : Operand} (ho : o.op = .assign x) (h : footOf cx all o = some f) : OpFoot cx hc all o f := by
  unfold footOf at h
  rw [ho] at h
  cases h
  refine foot_left (fun env k => k (rd env x)) x (fun _ h => h) (fun env sto k => ?_) (fun env => .pure _) (fun env t d h => ?_)
  · unfold evOp; simp only [ho] <;> rfl
  · simp only [rd_set h]

theorem out_app {t : Nat} {a b : List Nat} (h : t ∉ a ++ b) : t ∉ a ∧ t ∉ b := by
  simpa [not_or] using h

theorem foot_pick {c x y : Operand} (ho : o.op = .pick c x y) (h : footOf cx all o = some f) : OpFoot cx hc all o f := by
  unfold footOf at h
  rw [ho] at h
  cases h
  refine foot_plain (fun env k => match rd env c with
    | .bool t => match t with
      | true => k (rd env x).dup
      | false => k (rd env y).dup
    | _ => none) (fun env sto k => ?_) (fun env => ?_) (fun env t d h => ?_)
  · unfold evOp; simp only [ho] <;> rfl
  · generalize rd env c = z
    cases z <;> first
      | exact .none
      | skip
    rename_i b
    cases b <;> exact .pure _
  · obtain ⟨h12, h3⟩ := out_app h
    obtain ⟨h1, h2⟩ := out_app h12
    simp only [rd_set h1, rd_set h2, rd_set h3]

theorem foot_nilCheck {x : Operand} (ho : o.op = .nilCheck x) (h : footOf cx all o = some f) : OpFoot cx hc all o f := by
  unfold footOf at h
  rw [ho] at h
  cases h
  refine foot_plain (fun env k => match rd env x with
    | .ptr i off => k (.ptr i off)
    | .box cs => k (.box cs)
    | .fn f cs => k (.fn f cs)
    | _ => none) (fun env sto k => ?_) (fun env => ?_) (fun env t d h => ?_)
  · unfold evOp; simp only [ho] <;> rfl
  · generalize rd env x = z
    cases z <;> first
      | exact .none
      | exact .pure _
  · simp only [rd_set h]

theorem foot_binOp {op t x y tr} (ho : o.op = .binOp op t x y tr) (h : footOf cx all o = some f) : OpFoot cx hc all o f := by
  unfold footOf at h
  rw [ho] at h
  cases h
  refine foot_plain (fun env => binK cx op t (isConstO x || isConstO y) (rd env x) (rd env y)) (fun env sto k => ?_) (fun env => binK_bnd _ _ _ _ _) (fun env t d h => ?_)
  · unfold evOp; simp only [ho] <;> rfl
  · obtain ⟨h1, h2⟩ := out_app h
    simp only [rd_set h1, rd_set h2]

theorem foot_unOp {op t x} (ho : o.op = .unOp op t x) (h : footOf cx all o = some f) : OpFoot cx hc all o f := by
  unfold footOf at h
  rw [ho] at h
  cases h
  refine foot_plain (fun env => unK op (rd env x)) (fun env sto k => ?_) (fun env => unK_bnd _ _) (fun env t d h => ?_)
  · unfold evOp; simp only [ho] <;> rfl
  · simp only [rd_set h]

theorem optMap_set {env : List D} {t : Nat} {d : D} {x : Option Operand} (h : t ∉ optOf x) : x.map (rd (env.set t d)) = x.map (rd env) := by
  cases x with
  | none => rfl
  | some x => simp only [Option.map_some, rd_set (x := x) h]

theorem foot_slice {ty x lo hi mx} (ho : o.op = .slice ty x lo hi mx) (h : footOf cx all o = some f) : OpFoot cx hc all o f := by
  unfold footOf at h
  rw [ho] at h
  cases h
  refine foot_plain (fun env k => match tyOk cx ty (rd env x) with
    | true => sliceK (rd env x) (lo.map (rd env)) (hi.map (rd env)) (mx.map (rd env)) k
    | false => none) (fun env sto k => ?_) (fun env => ?_) (fun env t d h => ?_)
  · unfold evOp; simp only [ho] <;> rfl
  · cases tyOk cx ty (rd env x)
    · exact .none
    · exact sliceK_bnd _ _ _ _
  · obtain ⟨h123, h4⟩ := out_app h
    obtain ⟨h12, h3⟩ := out_app h123
    obtain ⟨h1, h2⟩ := out_app h12
    simp only [rd_set h1, optMap_set h2, optMap_set h3, optMap_set h4]

theorem foot_fieldAddr {ty x fi} (ho : o.op = .fieldAddr ty x fi) (h : footOf cx all o = some f) : OpFoot cx hc all o f := by
  unfold footOf at h
  rw [ho] at h
  cases h
  refine foot_plain (fun env k => match look cx.tab ty with
    | some { d := .struct fs, .. } => match fs[fi]? with
      | some fi => match Nat.beq fi.size 0, rd env x with
        | false, .ptr i off => k (.ptr i (off + fi.off))
        | false, .box cs => match Nat.ble fi.off cs.length with
          | true => k (.box (cs.drop fi.off))
          | false => none
        | _, _ => none
      | none => none
    | _ => none) (fun env sto k => ?_) (fun env => ?_) (fun env t d h => ?_)
  · unfold evOp; simp only [ho] <;> rfl
  · refine .of (Option.bind (match look cx.tab ty with
      | some { d := .struct fs, .. } => fs[fi]?
      | _ => none) fun fi => match Nat.beq fi.size 0, rd env x with
        | false, .ptr i off => some (.ptr i (off + fi.off))
        | false, .box cs => match Nat.ble fi.off cs.length with
          | true => some (.box (cs.drop fi.off))
          | false => none
        | _, _ => none) (fun k => ?_)
    cases look cx.tab ty with
    | none => rfl
    | some e =>
      obtain ⟨ed, _, _, _, _, _⟩ := e
      cases ed <;> first
        | rfl
        | skip
      rename_i fs
      simp only
      cases fs[fi]? with
      | none => rfl
      | some fi =>
        simp only [Option.bind_some]
        cases Nat.beq fi.size 0
        · generalize rd env x = z
          cases z <;> first
            | rfl
            | skip
          rename_i cs
          simp only
          cases Nat.ble fi.off cs.length <;> rfl
        · rfl
  · simp only [rd_set h]

theorem foot_field {ty x fi} (ho : o.op = .field ty x fi) (h : footOf cx all o = some f) : OpFoot cx hc all o f := by
  unfold footOf at h
  rw [ho] at h
  cases h
  refine foot_plain (fun env k => match look cx.tab ty with
    | some { d := .struct fs, .. } => match fs[fi]?, rd env x with
      | some fi, .agg cs => match Nat.ble (fi.off + fi.size) cs.length with
        | true => k (ofCells fi.agg (((cs.drop fi.off).take fi.size).map D.dup1))
        | false => none
      | _, _ => none
    | _ => none) (fun env sto k => ?_) (fun env => ?_) (fun env t d h => ?_)
  · unfold evOp; simp only [ho] <;> rfl
  · cases look cx.tab ty with
    | none => exact .none
    | some e =>
      obtain ⟨ed, _, _, _, _, _⟩ := e
      cases ed <;> first
        | exact .none
        | skip
      rename_i fs
      simp only
      cases fs[fi]? with
      | none => exact .none
      | some fi =>
        generalize rd env x = z
        cases z <;> first
          | exact .none
          | skip
        rename_i cs
        simp only
        cases Nat.ble (fi.off + fi.size) cs.length
        · exact .none
        · exact .pure _
  · simp only [rd_set h]

end
end Go.Ev

namespace Go.Ev
section
variable {R : Type} {cx : Cx}
variable {hc : FuncId → List D → Sto → (D → Sto → Option R) → Option R} {all : List Oper} {o : Oper} {f : Foot}

theorem bnd_bind {α : Type} (m : Option α) {V : α → (D → Option R) → Option R} (h : ∀ a, Bnd (V a)) : Bnd (R := R) fun k => m.bind fun a => V a k := by
  cases m with
  | none => exact .none
  | some a => exact h a

theorem foot_indexAddr {ty x ix} (ho : o.op = .indexAddr ty x ix) (h : footOf cx all o = some f) : OpFoot cx hc all o f := by
  unfold footOf at h
  rw [ho] at h
  cases h
  refine foot_plain (fun env k => match look cx.tab ty, rd env x, rd env ix with
    | some { d := .slice _, .. }, .sl m ty' l, .int _ n => match tyOk cx ty (.sl m ty' l) with
      | true => (nth l n).bind fun e => k (.box (cells ty' e))
      | false => none
    | some { d := .array len e, .. }, .ptr i off, .int _ n => match look cx.tab e with
      | some te => match decide (0 ≤ n ∧ n < (len : Int)) with
        | true => k (.ptr i (off + n.toNat * te.size))
        | false => none
      | none => none
    | _, _, _ => none) (fun env sto k => ?_) (fun env => ?_) (fun env t d h => ?_)
  · unfold evOp; simp only [ho] <;> rfl
  · cases look cx.tab ty with
    | none => exact .none
    | some e =>
      obtain ⟨ed, _, _, _, _, _⟩ := e
      generalize rd env x = z
      generalize rd env ix = y
      cases ed <;> first
        | exact .none
        | skip
      · cases z <;> first
          | exact .none
          | skip
        cases y <;> first
          | exact .none
          | skip
        rename_i m ty' l _ n
        simp only
        cases tyOk cx ty (.sl m ty' l)
        · exact .none
        · exact bnd_bind _ fun _ => .pure _
      · rename_i len e
        cases z <;> first
          | exact .none
          | skip
        cases y <;> first
          | exact .none
          | skip
        rename_i n
        simp only
        cases look cx.tab e with
        | none => exact .none
        | some te =>
          simp only
          cases decide (0 ≤ n ∧ n < (len : Int))
          · exact .none
          · exact .pure _
  · obtain ⟨h1, h2⟩ := out_app h
    simp only [rd_set h1, rd_set h2]

theorem foot_index {ty x ix} (ho : o.op = .index ty x ix) (h : footOf cx all o = some f) : OpFoot cx hc all o f := by
  unfold footOf at h
  rw [ho] at h
  cases h
  refine foot_plain (fun env k => match look cx.tab ty, rd env x, rd env ix with
    | some { d := .str, .. }, .str s, .int _ n => (nth s n).bind fun b => k (.int .u8 (b.toNat : Int))
    | some { d := .array len e, .. }, .agg cs, .int _ n => match look cx.tab e with
      | some te => match decide (0 ≤ n ∧ n < (len : Int)), Nat.ble (n.toNat * te.size + te.size) cs.length with
        | true, true => k (ofCells te.agg (((cs.drop (n.toNat * te.size)).take te.size).map D.dup1))
        | _, _ => none
      | none => none
    | _, _, _ => none) (fun env sto k => ?_) (fun env => ?_) (fun env t d h => ?_)
  · unfold evOp; simp only [ho] <;> rfl
  · cases look cx.tab ty with
    | none => exact .none
    | some e =>
      obtain ⟨ed, _, _, _, _, _⟩ := e
      generalize rd env x = z
      generalize rd env ix = y
      cases ed <;> first
        | exact .none
        | skip
      · cases z <;> first
          | exact .none
          | skip
        cases y <;> first
          | exact .none
          | skip
        exact bnd_bind _ fun _ => .pure _
      · rename_i len e
        cases z <;> first
          | exact .none
          | skip
        cases y <;> first
          | exact .none
          | skip
        rename_i cs _ n
        simp only
        cases look cx.tab e with
        | none => exact .none
        | some te =>
          simp only
          cases decide (0 ≤ n ∧ n < (len : Int)) <;> cases Nat.ble (n.toNat * te.size + te.size) cs.length <;> first
            | exact .none
            | exact .pure _
  · obtain ⟨h1, h2⟩ := out_app h
    simp only [rd_set h1, rd_set h2]

theorem foot_extract {x i} (ho : o.op = .extract x i) (h : footOf cx all o = some f) : OpFoot cx hc all o f := by
  unfold footOf at h
  rw [ho] at h
  cases h
  let L : List D → List D := fun env => match rd env x with
    | .tup cs => match cs[i]? with
      | some c => match c.leaf with
        | true => left env x
        | false => env
      | none => env
    | _ => env
  refine foot_val (fun env k => match rd env x with
    | .tup cs => match cs[i]? with
      | some c => match c.leaf with
        | true => k c
        | false => k c.dup
      | none => none
    | _ => none) L (fun env sto k => ?_) (fun env => ?_) (fun env t d h => ?_) (fun env => ?_) (fun env t d h _ => ?_)
  · unfold evOp; simp only [ho, L]
    generalize rd env x = z
    cases z <;> first
      | rfl
      | skip
    rename_i cs
    simp only
    cases cs[i]? with
    | none => rfl
    | some c => simp only; cases c.leaf <;> rfl
  · generalize rd env x = z
    cases z <;> first
      | exact .none
      | skip
    rename_i cs
    simp only
    cases cs[i]? with
    | none => exact .none
    | some c => simp only; cases c.leaf <;> exact .pure _
  · simp only [rd_set h]
  · simp only [L]
    split
    · split
      · split
        · exact .left (fun _ h => h) _
        · exact .refl _ _
      · exact .refl _ _
    · exact .refl _ _
  · simp only [L, rd_set h, left_set h]
    generalize rd env x = z
    cases z <;> first
      | rfl
      | skip
    rename_i cs
    simp only
    cases cs[i]? with
    | none => rfl
    | some c => simp only; cases c.leaf <;> rfl

/-- Is the slice that is converted to its own type taken over? -/
def convOwn (cx : Cx) (src dst : TypeId) (x : D) : Option (Option D) :=
  match look cx.tab src, Nat.beq src dst, x with
  | some { d := .slice e, .. }, true, .sl m .byte l => match look cx.tab e with
    | some { d := .int .u8, .. } => match m, l with
      | .own, c :: l' => some (some (.sl .ro .byte (c :: l')))
      | _, _ => some none
    | _ => some none
  | _, _, _ => none

theorem foot_convert {src dst x} (ho : o.op = .convert src dst x) (h : footOf cx all o = some f) : OpFoot cx hc all o f := by
  unfold footOf at h
  rw [ho] at h
  cases h
  refine foot_val (fun env k => match convOwn cx src dst (rd env x) with
    | some (some d) => k d
    | some none => none
    | none => convK cx src dst (rd env x) k) (fun env => match convOwn cx src dst (rd env x) with
    | some (some _) => left env x
    | _ => env) (fun env sto k => ?_) (fun env => ?_) (fun env t d h => ?_) (fun env => ?_) (fun env t d h _ => ?_)
  · unfold evOp; simp only [ho]
    unfold convOwn
    cases look cx.tab src with
    | none => rfl
    | some e =>
      obtain ⟨ed, _, _, _, _, _⟩ := e
      cases ed <;> first
        | rfl
        | skip
      rename_i e
      cases Nat.beq src dst
      · rfl
      · generalize rd env x = z
        cases z <;> first
          | rfl
          | skip
        rename_i m ty l
        cases ty <;> first
          | rfl
          | skip
        simp only
        cases look cx.tab e with
        | none => rfl
        | some e2 =>
          obtain ⟨ed2, _, _, _, _, _⟩ := e2
          cases ed2 <;> first
            | rfl
            | skip
          rename_i kk
          cases kk <;> first
            | rfl
            | skip
          cases m <;> first
            | rfl
            | (cases l <;> rfl)
  · skip
    cases convOwn cx src dst (rd env x) with
    | none => exact convK_bnd _ _ _
    | some y => cases y with
      | none => exact .none
      | some d => exact .pure _
  · simp only [rd_set h]
  · simp only
    split
    · exact .left (fun _ h => h) _
    · exact .refl _ _
  · simp only [rd_set h, left_set h]
    split <;> rfl

theorem map_rd_set {env : List D} {t : Nat} {d : D} : ∀ {l : List Operand}, t ∉ tmpsOf l → (l.map fun x => (rd (env.set t d) x).dup) = l.map fun x => (rd env x).dup
  | [], _ => rfl
  | x :: r, h => by
    obtain ⟨h1, h2⟩ := out_cons h
    simp only [List.map_cons, rd_set h1, map_rd_set h2]

theorem foot_makeFunc {fo first caps} (ho : o.op = .makeFunc fo first caps) (h : footOf cx all o = some f) : OpFoot cx hc all o f := by
  unfold footOf at h
  rw [ho] at h
  cases h
  refine foot_plain (fun env k => match fo with
    | .func f => match first.toList with
      | [] => k (.fn f (caps.toList.map fun x => (rd env x).dup))
      | _ => none
    | _ => none) (fun env sto k => ?_) (fun env => ?_) (fun env t d h => ?_)
  · unfold evOp; simp only [ho]
    cases fo <;> rfl
  · cases fo <;> first
      | exact .none
      | skip
    simp only
    cases first.toList
    · exact .pure _
    · exact .none
  · simp only [map_rd_set h]

theorem foot_buildSlice {ty len parts} (ho : o.op = .buildSlice ty len parts) (h : footOf cx all o = some f) : OpFoot cx hc all o f := by
  unfold footOf at h
  rw [ho] at h
  cases h
  refine foot_plain (fun env k => match look cx.tab ty with
    | some { d := .slice e, .. } => match look cx.tab e with
      | some { size := sz, ty := some ty, zero := z, .. } => match fillL sz env parts.toList (List.replicate len z) with
        | some cs => match decRow ty cs with
          | some l => match Nat.ble (len * sz) 16777216 with
            | true => k (.sl .own ty l)
            | false => none
          | none => none
        | none => none
      | _ => none
    | _ => none) (fun env sto k => ?_) (fun env => ?_) (fun env t d h => ?_)
  · unfold evOp; simp only [ho] <;> rfl
  · cases look cx.tab ty with
    | none => exact .none
    | some e =>
      obtain ⟨ed, _, _, _, _, _⟩ := e
      cases ed <;> first
        | exact .none
        | skip
      rename_i e
      simp only
      cases look cx.tab e with
      | none => exact .none
      | some e2 =>
        obtain ⟨ed2, sz, by2, ag2, ty2, z2⟩ := e2
        cases ty2 with
        | none => exact .none
        | some ty2 =>
          simp only
          cases fillL sz env parts.toList (List.replicate len z2) with
          | none => exact .none
          | some cs =>
            simp only
            cases decRow ty2 cs with
            | none => exact .none
            | some l =>
              simp only
              cases Nat.ble (len * sz) 16777216
              · exact .none
              · exact .pure _
  · simp only [fillL_set (sz := _) parts.toList env _ h]

theorem foot_build {ty parts} (ho : o.op = .build ty parts) (h : footOf cx all o = some f) : OpFoot cx hc all o f := by
  unfold footOf at h
  rw [ho] at h
  cases h
  let F : List D → Option (List D × List D) := fun env => match look cx.tab ty with
    | some { d := .struct fs, zero := z, .. } => fillS fs env parts.toList z
    | _ => none
  have hF : ∀ env (t : Nat) d, t ∉ tmpsOf (parts.toList.map (·.2)) → F (env.set t d) = (F env).map fun p => (p.1, p.2.set t d) := by
    intro env t d h
    simp only [F]
    split
    · exact fillS_set _ _ _ h
    · rfl
  refine foot_val (fun env k => match F env with
    | some (cs, _) => k (.agg cs)
    | none => none) (fun env => match F env with
    | some (_, env) => env
    | none => env) (fun env sto k => ?_) (fun env => ?_) (fun env t d h => ?_) (fun env => ?_) (fun env t d h _ => ?_)
  · unfold evOp; simp only [ho, F]
    cases look cx.tab ty with
    | none => rfl
    | some e =>
      obtain ⟨ed, _, _, _, _, z⟩ := e
      cases ed <;> first
        | rfl
        | skip
      rename_i fs
      simp only
      cases fillS fs env parts.toList z with
      | none => rfl
      | some p => rfl
  · skip
    cases F env with
    | none => exact .none
    | some p => exact .pure _
  · simp only [hF env t d h]
    cases F env <;> rfl
  · simp only [F]
    cases look cx.tab ty with
    | none => exact .refl _ _
    | some e =>
      obtain ⟨ed, _, _, _, _, z⟩ := e
      cases ed <;> first
        | exact .refl _ _
        | skip
      rename_i fs
      simp only
      cases hp : fillS fs env parts.toList z with
      | none => exact .refl _ _
      | some p => exact fillS_chg _ _ _ _ hp
  · simp only [hF env t d h]
    cases F env <;> rfl

theorem foot_len {args ats} (ho : o.op = .call { callee := .builtin .len, args, argTypes := ats }) (h : footOf cx all o = some f) : OpFoot cx hc all o f := by
  unfold footOf at h
  rw [ho] at h
  cases h
  refine foot_plain (fun env k => match args.toList, ats.toList with
    | [x], [t] => match look cx.tab t, rd env x with
      | some { d := .str, .. }, .str s => k (.int .i64 (s.length : Int))
      | some { d := .slice _, .. }, .nils => k (.int .i64 0)
      | some { d := .slice _, .. }, .sl _ _ l => k (.int .i64 (l.length : Int))
      | some { d := .array len _, .. }, _ => match Nat.ble len 9223372036854775807 with
        | true => k (.int .i64 (len : Int))
        | false => none
      | _, _ => none
    | _, _ => none) (fun env sto k => ?_) (fun env => ?_) (fun env t d h => ?_)
  · unfold evOp; simp only [ho] <;> rfl
  · split
    · rename_i x t _ _
      cases look cx.tab t with
      | none => exact .none
      | some e =>
        obtain ⟨ed, _, _, _, _, _⟩ := e
        generalize rd env x = z
        cases ed <;> first
          | exact .none
          | skip
        · cases z <;> first
            | exact .none
            | exact .pure _
        · cases z <;> first
            | exact .none
            | exact .pure _
        · rename_i len e
          simp only
          cases Nat.ble len 9223372036854775807
          · exact .none
          · exact .pure _
    · exact .none
  · dsimp only at h ⊢
    split
    · rename_i x t' hx _
      rw [hx] at h
      rw [rd_set (out_cons h).1]
    · rfl

theorem foot_append {args ats} (ho : o.op = .call { callee := .builtin .append, args, argTypes := ats }) (h : footOf cx all o = some f) : OpFoot cx hc all o f := by
  unfold footOf at h
  rw [ho] at h
  cases h
  refine foot_val (fun env k => match args.toList, ats.toList with
    | [x, y], [t, t2] => match look cx.tab t2 with
      | some { d := .slice _, .. } | some { d := .str, .. } => appendK cx t (rd env x) (rd env y) k
      | _ => none
    | _, _ => none) (fun env => match args.toList with
    | [x, _] => left env x
    | _ => env) (fun env sto k => ?_) (fun env => ?_) (fun env t d h => ?_) (fun env => ?_) (fun env t d h _ => ?_)
  · unfold evOp; simp only [ho]
    generalize args.toList = al
    generalize ats.toList = tl
    rcases al with _ | ⟨x, _ | ⟨y, _ | _⟩⟩ <;> rcases tl with _ | ⟨t, _ | ⟨t2, _ | _⟩⟩ <;> rfl
  · split
    · split
      · exact appendK_bnd _ _ _
      · exact appendK_bnd _ _ _
      · exact .none
    · exact .none
  · dsimp only at h ⊢
    split
    · rename_i x y t' t2 hx _
      rw [hx] at h
      obtain ⟨h1, h2⟩ := out_cons h
      rw [rd_set h1, rd_set (out_cons h2).1]
    · rfl
  · dsimp only
    split
    · rename_i x y hx
      exact .left (fun t h => by rw [hx]; simp [tmpsOf, h]) _
    · exact .refl _ _
  · dsimp only at h ⊢
    split
    · rename_i x y hx
      rw [hx] at h
      exact left_set (out_cons h).1
    · rfl

end
end Go.Ev

namespace Go.Ev
section
variable {R : Type} {cx : Cx}
variable {hc : FuncId → List D → Sto → (D → Sto → Option R) → Option R} {all : List Oper} {o : Oper} {f : Foot}

theorem foot_load {ty x} (ho : o.op = .load ty x) (h : footOf cx all o = some f) : OpFoot cx hc all o f := by
  unfold footOf at h
  rw [ho] at h
  simp only at h
  refine foot_gen (fun env sto => match look cx.tab ty with
    | some e => match rd env x with
      | .ptr i off => match sto[i]? with
        | some cs => match Nat.ble (off + e.size) cs.length with
          | true => match e.agg, stealsDst cx.want all o.dst, (cs.getD off .any).leaf with
            | false, true, true => some (cs.getD off .any, env, sto.set i (cs.set off (cs.getD off .any).dup1))
            | _, _, _ => some (ofCells e.agg (((cs.drop off).take e.size).map D.dup1), env, sto)
          | false => none
        | none => none
      | .box cs => match Nat.ble e.size cs.length with
        | true => some (ofCells e.agg ((cs.take e.size).map D.dup1), env, sto)
        | false => none
      | _ => none
    | none => none) (fun env sto k => ?_) (fun env sto t d h1 _ => ?_) (fun env sto p hp => ?_) ?_
  · unfold evOp; simp only [ho]
    cases look cx.tab ty with
    | none => rfl
    | some e =>
      generalize rd env x = z
      cases z <;> first
        | rfl
        | skip
      · rename_i i off
        simp only
        cases sto[i]? with
        | none => rfl
        | some cs =>
          simp only
          cases Nat.ble (off + e.size) cs.length
          · rfl
          · cases e.agg <;> cases stealsDst cx.want all o.dst <;> cases (cs.getD off .any).leaf <;> rfl
      · rename_i cs
        simp only
        cases Nat.ble e.size cs.length <;> rfl
  · have hx : t ∉ tmpOf x := by
      cases hs : stealsDst cx.want all o.dst <;> rw [hs] at h <;> cases h <;> exact h1
    simp only [rd_set hx]
    cases look cx.tab ty with
    | none => rfl
    | some e =>
      generalize rd env x = z
      cases z <;> first
        | rfl
        | skip
      · rename_i i off
        simp only
        cases sto[i]? with
        | none => rfl
        | some cs =>
          simp only
          cases Nat.ble (off + e.size) cs.length
          · rfl
          · cases e.agg <;> cases stealsDst cx.want all o.dst <;> cases (cs.getD off .any).leaf <;> rfl
      · rename_i cs
        simp only
        cases Nat.ble e.size cs.length <;> rfl
  · split at hp
    · split at hp
      · split at hp
        · split at hp
          · split at hp
            · rename_i hs _
              rw [hs] at h; cases h; cases hp
              exact ⟨.refl _ _, fun h => by cases h⟩
            · cases hp; exact ⟨.refl _ _, fun _ => rfl⟩
          · cases hp
        · cases hp
      · split at hp
        · cases hp; exact ⟨.refl _ _, fun _ => rfl⟩
        · cases hp
      · cases hp
    · cases hp
  · cases hs : stealsDst cx.want all o.dst <;> rw [hs] at h <;> cases h <;> rfl

theorem foot_alloc {ty} (ho : o.op = .alloc ty) (h : footOf cx all o = some f) : OpFoot cx hc all o f := by
  unfold footOf at h
  rw [ho] at h
  cases h
  refine foot_gen (fun env sto => match look cx.tab ty with
    | some { zero := [], .. } => none
    | some e => some (.ptr sto.length 0, env, sto ++ [e.zero])
    | none => none) (fun env sto k => ?_) (fun env sto t d h1 _ => ?_) (fun env sto p hp => ?_) rfl
  · unfold evOp; simp only [ho]
    cases look cx.tab ty with
    | none => rfl
    | some e =>
      obtain ⟨_, _, _, _, _, z⟩ := e
      cases z <;> rfl
  · cases look cx.tab ty with
    | none => rfl
    | some e =>
      obtain ⟨_, _, _, _, _, z⟩ := e
      cases z <;> rfl
  · refine ⟨?_, fun h => by cases h⟩
    split at hp
    · cases hp
    · cases hp; exact .refl _ _
    · cases hp

theorem foot_box {ty x} (ho : o.op = .box ty x) (h : footOf cx all o = some f) : OpFoot cx hc all o f := by
  unfold footOf at h
  rw [ho] at h
  cases h
  refine foot_gen (fun env sto => match look cx.tab ty with
    | some e => match fits (rd env x).cells e.size with
      | true => some (.ptr sto.length 0, left env x, sto ++ [(rd env x).cells])
      | false => none
    | none => none) (fun env sto k => ?_) (fun env sto t d h1 _ => ?_) (fun env sto p hp => ?_) rfl
  · unfold evOp; simp only [ho]
    cases look cx.tab ty with
    | none => rfl
    | some e =>
      simp only
      cases fits (rd env x).cells e.size <;> rfl
  · simp only [rd_set h1, left_set h1]
    cases look cx.tab ty with
    | none => rfl
    | some e =>
      simp only
      cases fits (rd env x).cells e.size <;> rfl
  · refine ⟨?_, fun h => by cases h⟩
    split at hp
    · split at hp
      · cases hp; exact .left (fun _ h => h) _
      · cases hp
    · cases hp

theorem foot_store {ty a x} (ho : o.op = .store ty a x) (h : footOf cx all o = some f) : OpFoot cx hc all o f := by
  unfold footOf at h
  rw [ho] at h
  cases h
  refine foot_gen (fun env sto => match look cx.tab ty with
    | some e => match rd env a with
      | .ptr i off => match sto[i]? with
        | some cs => match Nat.ble (off + e.size) cs.length, fits (rd env x).cells e.size with
          | true, true => some (.tup [], left env x, sto.set i (splice cs off (rd env x).cells))
          | _, _ => none
        | none => none
      | _ => none
    | none => none) (fun env sto k => ?_) (fun env sto t d h1 _ => ?_) (fun env sto p hp => ?_) rfl
  · unfold evOp; simp only [ho]
    cases look cx.tab ty with
    | none => rfl
    | some e =>
      generalize rd env a = z
      cases z <;> first
        | rfl
        | skip
      rename_i i off
      simp only
      cases sto[i]? with
      | none => rfl
      | some cs =>
        simp only
        cases Nat.ble (off + e.size) cs.length <;> cases fits (rd env x).cells e.size <;> rfl
  · obtain ⟨ha, hx⟩ := out_app h1
    simp only [rd_set ha, rd_set hx, left_set hx]
    cases look cx.tab ty with
    | none => rfl
    | some e =>
      generalize rd env a = z
      cases z <;> first
        | rfl
        | skip
      rename_i i off
      simp only
      cases sto[i]? with
      | none => rfl
      | some cs =>
        simp only
        cases Nat.ble (off + e.size) cs.length <;> cases fits (rd env x).cells e.size <;> rfl
  · refine ⟨?_, fun h => by cases h⟩
    split at hp
    · split at hp
      · split at hp
        · split at hp
          · cases hp; exact .left (fun _ h => h) _
          · cases hp
        · cases hp
      · cases hp
    · cases hp

/-- Calls to the functions of the list come to one answer, or to none; the calm ones leave the store as it is. -/
def BndOk (cx : Cx) (hc : FuncId → List D → Sto → (D → Sto → Option R) → Option R) : Prop :=
  ∀ f, cx.bnd.any (Nat.beq f) = true → ∀ args sto, ∃ s : Option (D × Sto), (∀ K, hc f args sto K = s.bind fun p => K p.1 p.2) ∧ (cx.calm.any (Nat.beq f) = true → ∀ p, s = some p → p.2 = sto)

theorem bound_fn {l : List Nat} {x : Operand} (h : bound l x = true) : ∃ f, x = .func f ∧ l.any (Nat.beq f) = true := by
  cases x <;> first
    | exact ⟨_, rfl, h⟩
    | cases h

theorem foot_call (hb : BndOk cx hc) {fo args ats} (ho : o.op = .call { callee := .value fo, args, argTypes := ats }) (h : footOf cx all o = some f) : OpFoot cx hc all o f := by
  unfold footOf at h
  rw [ho] at h
  simp only at h
  cases hbd : bound cx.bnd fo with
  | false => rw [hbd] at h; cases h
  | true =>
    rw [hbd] at h
    cases h
    obtain ⟨fn, rfl, hin⟩ := bound_fn hbd
    have hch := fun ds sto => Classical.choose_spec (hb fn hin ds sto)
    let G : List D → Sto → Option (D × Sto) := fun ds sto => Classical.choose (hb fn hin ds sto)
    refine foot_gen (fun env sto => (G ((argsOf env ((look cx.want fn).getD []) 0 args.toList).1 ++ []) sto).map fun p => (p.1, (argsOf env ((look cx.want fn).getD []) 0 args.toList).2, p.2))
      (fun env sto k => ?_) (fun env sto t d h1 _ => ?_) (fun env sto p hp => ?_) rfl
    · unfold evOp; simp only [ho, rd, List.map_nil]
      rw [(hch _ _).1]
      show _ = Option.bind (Option.map _ (G _ _)) _
      cases hG : G ((argsOf env ((look cx.want fn).getD []) 0 args.toList).1 ++ []) sto with
      | none => simp only [G] at hG; rw [hG]; rfl
      | some p => simp only [G] at hG; rw [hG]; rfl
    · have h1' : t ∉ tmpsOf args.toList := (out_app h1).2
      simp only [argsOf_set args.toList 0 env h1']
      cases G ((argsOf env ((look cx.want fn).getD []) 0 args.toList).1 ++ []) sto <;> rfl
    · cases hG : G ((argsOf env ((look cx.want fn).getD []) 0 args.toList).1 ++ []) sto with
      | none => rw [hG] at hp; cases hp
      | some q =>
        rw [hG] at hp; cases hp
        exact ⟨argsOf_chg _ _ _, fun hc => (hch _ sto).2 hc q hG⟩

theorem footOf_ok (hb : BndOk cx hc) (h : footOf cx all o = some f) : OpFoot cx hc all o f := by
  have h0 := h
  unfold footOf at h
  split at h
  · rename_i ho; exact foot_move ho h0
  · rename_i ho; exact foot_assign ho h0
  · rename_i ho; exact foot_pick ho h0
  · rename_i ho; exact foot_nilCheck ho h0
  · rename_i ho; exact foot_binOp ho h0
  · rename_i ho; exact foot_unOp ho h0
  · rename_i ho; exact foot_convert ho h0
  · rename_i ho; exact foot_slice ho h0
  · rename_i ho; exact foot_fieldAddr ho h0
  · rename_i ho; exact foot_field ho h0
  · rename_i ho; exact foot_indexAddr ho h0
  · rename_i ho; exact foot_index ho h0
  · rename_i ho; exact foot_extract ho h0
  · rename_i ho; exact foot_makeFunc ho h0
  · rename_i ho; exact foot_buildSlice ho h0
  · rename_i ho; exact foot_build ho h0
  · rename_i ho; exact foot_load ho h0
  · rename_i ho; exact foot_alloc ho h0
  · rename_i ho; exact foot_box ho h0
  · rename_i ho; exact foot_store ho h0
  · rename_i ho; exact foot_len ho h0
  · rename_i ho; exact foot_append ho h0
  · rename_i ho; exact foot_call hb ho h0
  · cases h

end
end Go.Ev

/-! Two steps that may change places. -/
namespace Go.Ev
section
variable {R : Type} {cx : Cx}

def setAll (env : List D) : List (Nat × D) → List D
  | [] => env
  | (t, d) :: r => setAll (env.set t d) r

theorem setAll_set {t : Nat} {d : D} : ∀ (l : List (Nat × D)) (env : List D), (∀ p, p ∈ l → p.1 ≠ t) → setAll (env.set t d) l = (setAll env l).set t d
  | [], _, _ => rfl
  | (s, e) :: r, env, h => by
    have hne : s ≠ t := h (s, e) (List.mem_cons_self ..)
    simp only [setAll]
    rw [List.set_comm _ _ (Ne.symm hne)]
    exact setAll_set r _ (fun p hp => h p (List.mem_cons_of_mem _ hp))

theorem setAll_comm {m : List (Nat × D)} : ∀ (l : List (Nat × D)) (env : List D), (∀ p, p ∈ l → ∀ q, q ∈ m → q.1 ≠ p.1) → setAll (setAll env l) m = setAll (setAll env m) l
  | [], _, _ => rfl
  | (t, d) :: r, env, h => by
    simp only [setAll]
    rw [setAll_comm r _ (fun p hp q hq => h p (List.mem_cons_of_mem _ hp) q hq), setAll_set m env (fun q hq => h (t, d) (List.mem_cons_self ..) q hq)]

theorem chg_setAll {env' : List D} : ∀ (S : List Nat) (env : List D), Chg S env env' → env' = setAll env (S.map fun t => (t, env'.getD t .any))
  | [], env, h => by
    show env' = env
    exact List.ext_getElem? (fun i => h.2 i (by simp))
  | t :: r, env, h => by
    simp only [List.map_cons, setAll]
    refine chg_setAll r _ ⟨by simp [h.1], fun s hs => ?_⟩
    by_cases e : t = s
    · subst e
      rw [List.getElem?_set_self']
      rcases Nat.lt_or_ge t env.length with hl | hl
      · have hl' : t < env'.length := h.1 ▸ hl
        simp [hl, hl', List.getD]
      · rw [List.getElem?_eq_none hl, List.getElem?_eq_none (h.1 ▸ hl)]; rfl
    · rw [List.getElem?_set_ne e]
      exact h.2 s (by simp only [List.mem_cons, not_or]; exact ⟨fun e' => e e'.symm, hs⟩)

structure XFoot (rd wr : List Nat) (calm apart : Bool) (Y : St → (St → Option R) → Option R) : Prop where
  nf : ∀ st, NF wr calm st (Y st)
  loc : ∀ (t : Nat) d env sto k, t ∉ rd → t ∉ wr → Y ⟨env.set t d, sto⟩ k = Y ⟨env, sto⟩ (fun st' => k ⟨st'.env.set t d, st'.sto⟩)
  sf : apart = true → ∀ env sto sto' k, Y ⟨env, sto'⟩ k = Y ⟨env, sto⟩ (fun st' => k ⟨st'.env, sto'⟩)
  ac : apart = true → calm = true

theorem XFoot.locAll {rd wr calm apart} {Y : St → (St → Option R) → Option R} (h : XFoot rd wr calm apart Y) : ∀ (l : List (Nat × D)) (env : List D) (sto : Sto) (k : St → Option R), (∀ p, p ∈ l → p.1 ∉ rd ∧ p.1 ∉ wr) →
    Y ⟨setAll env l, sto⟩ k = Y ⟨env, sto⟩ (fun st' => k ⟨setAll st'.env l, st'.sto⟩)
  | [], _, _, _, _ => rfl
  | (t, d) :: r, env, sto, k, hl => by
    simp only [setAll]
    rw [h.locAll r _ sto k (fun p hp => hl p (List.mem_cons_of_mem _ hp)), h.loc t d env sto _ (hl (t, d) (List.mem_cons_self ..)).1 (hl (t, d) (List.mem_cons_self ..)).2]

theorem XFoot.step {rd wr calm apart} {Y : St → (St → Option R) → Option R} (h : XFoot rd wr calm apart Y) {env : List D} {sto : Sto} {k : St → Option R} {r : R} (hk : Y ⟨env, sto⟩ k = some r) :
    ∃ (l : List (Nat × D)) (sto' : Sto), (∀ p, p ∈ l → p.1 ∈ wr) ∧ (∀ k, Y ⟨env, sto⟩ k = k ⟨setAll env l, sto'⟩) ∧ (calm = true → sto' = sto) := by
  obtain ⟨s, hs, hc⟩ := h.nf ⟨env, sto⟩
  cases s with
  | none => rw [hs] at hk; cases hk
  | some st' =>
    obtain ⟨h1, h2⟩ := hc st' rfl
    refine ⟨wr.map fun t => (t, st'.env.getD t .any), st'.sto, fun p hp => ?_, fun k => ?_, h2⟩
    · obtain ⟨t, ht, rfl⟩ := List.mem_map.1 hp; exact ht
    · rw [hs, ← chg_setAll wr env h1]; rfl

theorem XFoot.swap {rp wp cp ap ro wo co ao} {A B : St → (St → Option R) → Option R} (hA : XFoot rp wp cp ap A) (hB : XFoot ro wo co ao B)
    (h1 : ∀ t, t ∈ wp → t ∉ ro ∧ t ∉ wo) (h2 : ∀ t, t ∈ wo → t ∉ rp ∧ t ∉ wp) (h3 : ap = true ∨ ao = true ∨ (cp = true ∧ co = true)) {st : St} {k : St → Option R} {r : R}
    (h : A st (fun st' => B st' k) = some r) : B st (fun st' => A st' k) = some r := by
  obtain ⟨env, sto⟩ := st
  obtain ⟨m, stoA, hm, hAk, hAc⟩ := hA.step h
  rw [hAk] at h
  rw [hB.locAll m env stoA k (fun p hp => h1 _ (hm p hp))] at h
  have hdis : ∀ (l : List (Nat × D)), (∀ p, p ∈ l → p.1 ∈ wo) → ∀ p, p ∈ l → ∀ q, q ∈ m → q.1 ≠ p.1 := fun l hl p hp q hq e => (h1 _ (hm q hq)).2 (e ▸ hl p hp)
  rcases h3 with hap | hao | ⟨hcp, hco⟩
  · have hsA := hAc (hA.ac hap)
    subst hsA
    obtain ⟨l, stoB, hl, hBk, _⟩ := hB.step h
    rw [hBk] at h ⊢
    rw [hA.locAll l env stoB k (fun p hp => h2 _ (hl p hp)), hA.sf hap env stoA stoB, hAk]
    dsimp only at h ⊢
    rw [setAll_comm l env (hdis l hl)] at h
    exact h
  · rw [hB.sf hao env sto stoA] at h
    obtain ⟨l, stoB, hl, hBk, hBc⟩ := hB.step h
    have hsB := hBc (hB.ac hao)
    subst hsB
    rw [hBk] at h ⊢
    rw [hA.locAll l env stoB k (fun p hp => h2 _ (hl p hp)), hAk]
    dsimp only at h ⊢
    rw [setAll_comm l env (hdis l hl)] at h
    exact h
  · have hsA := hAc hcp
    subst hsA
    obtain ⟨l, stoB, hl, hBk, hBc⟩ := hB.step h
    have hsB := hBc hco
    subst hsB
    rw [hBk] at h ⊢
    rw [hA.locAll l env stoB k (fun p hp => h2 _ (hl p hp)), hAk]
    dsimp only at h ⊢
    rw [setAll_comm l env (hdis l hl)] at h
    exact h

end
end Go.Ev

/-! Regions whose order is open. -/
namespace Go.Ev
section
variable {P : Program} {X : Cfg} {R : Type} {cx : Cx}
variable {hc : FuncId → List D → Sto → (D → Sto → Option R) → Option R}

theorem set_same {env : List D} {d : Nat} {v : D} (h : env.getD d .any = v) (hv : v ≠ .any) : env.set d v = env := by
  have hd : d < env.length := by
    rcases Nat.lt_or_ge d env.length with h' | h'
    · exact h'
    · rw [getD_out h'] at h; exact absurd h.symm hv
  have he : env[d]? = some v := by rw [rd_tmp_get hd, h]
  apply List.ext_getElem?; intro i
  by_cases e : d = i
  · subst e; rw [List.getElem?_set_self hd, he]
  · rw [List.getElem?_set_ne e]

/-- The guard without what it lays. -/
def guardW (d : Nat) (want : Bool) (st : St) (run skip : St → Option R) : Option R :=
  match st.env.getD d .any with
  | .bool b => match b == want with
    | true => run st
    | false => skip st
  | .tup [] => skip st
  | _ => none

theorem guardK_eq {o : Oper} {ops : Array Oper} {j : Nat} {want : Bool} {d : Tmp} (hg : o.guard = some (j, want)) (hd : dstOf ops j = some d) (st : St) (run skip : St → Option R) :
    guardK o ops st run skip = guardW d want st run skip := by
  obtain ⟨env, sto⟩ := st
  unfold guardK guardW
  rw [hg]
  dsimp only
  rw [hd]
  dsimp only
  generalize he : env.getD d .any = z
  cases z <;> first
    | rfl
    | (rename_i cs; cases cs <;> rfl)
    | skip
  rename_i b
  have hs : env.set d (.bool b) = env := set_same he (by intro h; cases h)
  cases b <;> cases want <;> simp only [hs] <;> rfl

theorem NF.skip {S : List Nat} {calm : Bool} {st : St} {o : Option Tmp} (h : ∀ t, t ∈ dstT o → t ∈ S) : NF (R := R) S calm st fun k => k { st with env := put st.env o (.tup []) } :=
  ⟨some _, fun _ => rfl, fun st' e => by cases e; exact ⟨.put h _ _, fun _ => rfl⟩⟩

/-- An operation behind its guard. -/
theorem gOp_foot {ops : Array Oper} {o : Oper} {f : Foot} (h : OpFoot cx hc ops.toList o f) (hac : f.apart = true → f.calm = true) : XFoot (guardT ops o ++ f.rd) (dstT o.dst ++ f.wr) f.calm f.apart (gOp cx hc ops o) := by
  have hd : ∀ t, t ∈ dstT o.dst → t ∈ dstT o.dst ++ f.wr := fun t h => List.mem_append_left _ h
  unfold gOp
  cases hg : o.guard with
  | none =>
    have e : ∀ st (run skip : St → Option R), guardK o ops st run skip = run st := fun st run skip => by unfold guardK; rw [hg]
    refine ⟨fun st => ?_, fun t d env sto k h1 h2 => ?_, fun hap env sto sto' k => ?_, hac⟩
    · simp only [e]; exact h.nf st
    · simp only [e]
      exact h.loc t d env sto k (fun h' => h1 (List.mem_append_right _ h')) (fun h' => h2 (List.mem_append_left _ h')) (fun h' => h2 (List.mem_append_right _ h'))
    · simp only [e]; exact h.sf hap env sto sto' k
  | some jw =>
    obtain ⟨j, want⟩ := jw
    cases hj : dstOf ops j with
    | none =>
      have e : ∀ st (run skip : St → Option R), guardK o ops st run skip = none := fun st run skip => by unfold guardK; rw [hg]; simp only [hj]
      refine ⟨fun st => ?_, fun t d env sto k h1 h2 => ?_, fun hap env sto sto' k => ?_, hac⟩
      · simp only [e]; exact ⟨none, fun _ => rfl, fun _ h => by cases h⟩
      · simp only [e]
      · simp only [e]
    | some d0 =>
      have hgt : guardT ops o = [d0] := by simp [guardT, hg, hj]
      refine ⟨fun st => ?_, fun t d env sto k h1 h2 => ?_, fun hap env sto sto' k => ?_, hac⟩
      · simp only [guardK_eq hg hj, guardW]
        cases hz : st.env.getD d0 .any with
        | bool b =>
          cases hb : (b == want)
          · simp only [hb]; exact .skip hd
          · simp only [hb]; exact h.nf st
        | tup cs =>
          cases cs with
          | nil => exact .skip hd
          | cons c r => exact ⟨none, fun _ => rfl, fun _ h => by cases h⟩
        | _ => exact ⟨none, fun _ => rfl, fun _ h => by cases h⟩
      · have ht0 : t ≠ d0 := fun e => h1 (by rw [hgt, e]; simp)
        have hrd : (env.set t d).getD d0 .any = env.getD d0 .any := by simp [List.getD, List.getElem?_set_ne ht0]
        simp only [guardK_eq hg hj, guardW, hrd]
        have hsk : put (env.set t d) o.dst (.tup []) = (put env o.dst (.tup [])).set t d := put_set (fun h' => h2 (List.mem_append_left _ h'))
        cases hz : env.getD d0 .any with
        | bool b =>
          cases hb : (b == want)
          · simp only [hb, hsk]
          · simp only [hb]; exact h.loc t d env sto k (fun h' => h1 (List.mem_append_right _ h')) (fun h' => h2 (List.mem_append_left _ h')) (fun h' => h2 (List.mem_append_right _ h'))
        | tup cs =>
          cases cs with
          | nil => simp only [hsk]
          | cons c r => rfl
        | _ => rfl
      · simp only [guardK_eq hg hj, guardW]
        cases hz : env.getD d0 .any with
        | bool b =>
          cases hb : (b == want)
          · simp only [hb]
          · simp only [hb]; exact h.sf hap env sto sto' k
        | tup cs =>
          cases cs with
          | nil => rfl
          | cons c r => rfl
        | _ => rfl

theorem foot_ac {all : List Oper} {o : Oper} {f : Foot} (h : footOf cx all o = some f) : f.apart = true → f.calm = true := by
  unfold footOf at h
  split at h <;> first
    | (cases h; intro _; rfl)
    | (cases h; intro h; cases h)
    | (split at h <;> first
        | (cases h; intro _; rfl)
        | (cases h; intro h; cases h)
        | cases h)
    | cases h

theorem not_hasT {l : List Nat} {t : Nat} (h : hasT l t = false) : t ∉ l := by
  intro hm
  have : hasT l t = true := List.any_eq_true.2 ⟨t, hm, Nat.beq_refl t⟩
  rw [this] at h; cases h

theorem dis_spec {a b : List Nat} (h : dis a b = true) : ∀ t, t ∈ a → t ∉ b := fun t ht => not_hasT (by
  have := List.all_eq_true.1 h t ht
  simpa using this)

theorem comm_swap {ops : Array Oper} (hb : BndOk cx hc) {p o : Oper} {fp fo : Foot} (hp : footOf cx ops.toList p = some fp) (ho : footOf cx ops.toList o = some fo) (h : commB ops p o fp fo = true)
    {st : St} {k : St → Option R} {r : R} (hk : gOp cx hc ops p st (fun st' => gOp cx hc ops o st' k) = some r) : gOp cx hc ops o st (fun st' => gOp cx hc ops p st' k) = some r := by
  unfold commB at h
  simp only [Bool.and_eq_true, Bool.or_eq_true] at h
  obtain ⟨⟨h1, h2⟩, h3⟩ := h
  have d1 := dis_spec h1
  have d2 := dis_spec h2
  refine XFoot.swap (gOp_foot (footOf_ok hb hp) (foot_ac hp)) (gOp_foot (footOf_ok hb ho) (foot_ac ho)) (fun t ht => ?_) (fun t ht => ?_) ?_ hk
  · have := d1 t ht
    simp only [List.mem_append, not_or] at this ⊢
    exact ⟨⟨this.1.1.1, this.1.1.2⟩, this.1.2, this.2⟩
  · have := d2 t ht
    simp only [List.mem_append, not_or] at this ⊢
    exact ⟨⟨this.1.1.1, this.1.1.2⟩, this.1.2, this.2⟩
  · rcases h3 with (h3 | h3) | h3
    · exact .inl h3
    · exact .inr (.inl h3)
    · exact .inr (.inr h3)

/-! ### Which operation waits for which -/

theorem edgeMask_spec {acc : List Nat} {p : Nat} : ∀ {es : List Edge}, (edgeMask acc es).testBit p = true → ∃ e ∈ es, Region.binds .any e = true ∧ (e.on = p ∨ (acc.getD e.on 0).testBit p = true)
  | [], h => by simp [edgeMask] at h
  | e :: r, h => by
    unfold edgeMask at h
    split at h
    · rename_i hb
      simp only [Nat.testBit_or, Bool.or_eq_true] at h
      rcases h with (h | h) | h
      · refine ⟨e, List.mem_cons_self .., hb, .inl ?_⟩
        rw [Nat.testBit_two_pow] at h
        simpa using h
      · exact ⟨e, List.mem_cons_self .., hb, .inr h⟩
      · obtain ⟨e', he, hx⟩ := edgeMask_spec h
        exact ⟨e', List.mem_cons_of_mem _ he, hx⟩
    · obtain ⟨e', he, hx⟩ := edgeMask_spec h
      exact ⟨e', List.mem_cons_of_mem _ he, hx⟩

theorem masks_pre : ∀ (l : List Oper) (acc : List Nat), ∃ t, masks acc l = acc ++ t ∧ t.length = l.length
  | [], acc => ⟨[], by simp [masks]⟩
  | o :: r, acc => by
    obtain ⟨t, h1, h2⟩ := masks_pre r (acc ++ [edgeMask acc o.after.toList])
    exact ⟨edgeMask acc o.after.toList :: t, by simp [masks, h1], by simp [h2]⟩

theorem masks_get : ∀ (l : List Oper) (acc : List Nat) (i : Nat) o, l[i]? = some o → (masks acc l)[acc.length + i]? = some (edgeMask ((masks acc l).take (acc.length + i)) o.after.toList)
  | [], acc, i, o, h => by simp at h
  | o0 :: r, acc, 0, o, h => by
    simp at h; subst h
    simp only [masks]
    obtain ⟨t, h1, _⟩ := masks_pre r (acc ++ [edgeMask acc o0.after.toList])
    rw [h1]; simp
  | o0 :: r, acc, i + 1, o, h => by
    simp only [masks]
    have := masks_get r (acc ++ [edgeMask acc o0.after.toList]) i o (by simpa using h)
    simp only [List.length_append, List.length_singleton] at this
    rw [show acc.length + 1 + i = acc.length + (i + 1) by omega] at this
    exact this

/-- What the check says. -/
structure DrawOk (cx : Cx) (ops : Array Oper) : Prop where
  foot : ∀ (i : Nat) o, ops[i]? = some o → ∃ fo, footOf cx ops.toList o = some fo
  topo : ∀ (i : Nat) o, ops[i]? = some o → ∀ e ∈ o.after, Region.binds .any e = true → e.on < i
  row : ∀ (i p : Nat) o po fo fp, ops[i]? = some o → p < i → ops[p]? = some po → footOf cx ops.toList o = some fo → footOf cx ops.toList po = some fp →
    ((masks [] ops.toList).getD i 0).testBit p = true ∨ commB ops po o fp fo = true

theorem rowB_get {ops : Array Oper} {o : Oper} {fo : Foot} {m : Nat} : ∀ {l : List (Oper × Option Foot)} {p0 : Nat}, rowB ops o fo m p0 l = true → ∀ (j : Nat) po fpo, l[j]? = some (po, fpo) → ∃ fp, fpo = some fp ∧ (m.testBit (p0 + j) = true ∨ commB ops po o fp fo = true)
  | [], p0, _, j, po, fpo, h => by simp at h
  | (po0, some fp0) :: r, p0, h, j, po, fpo, hj => by
    simp only [rowB, Bool.and_eq_true, Bool.or_eq_true] at h
    cases j with
    | zero => simp at hj; obtain ⟨rfl, rfl⟩ := hj; exact ⟨fp0, rfl, h.1⟩
    | succ j =>
      obtain ⟨fp, h1, h2⟩ := rowB_get h.2 j po fpo (by simpa using hj)
      exact ⟨fp, h1, by rwa [show p0 + (j + 1) = p0 + 1 + j by omega]⟩
  | (_, none) :: r, p0, h, j, po, fpo, hj => by simp [rowB] at h

theorem rowsB_get {ops : Array Oper} {fs : List (Oper × Option Foot)} : ∀ {l : List (Oper × Option Foot)} {ms : List Nat} {i0 : Nat}, rowsB ops fs i0 l ms = true → ∀ (j : Nat) o fo', l[j]? = some (o, fo') →
    ∃ fo m, fo' = some fo ∧ ms[j]? = some m ∧ (o.after.toList.all fun e => !(Region.binds .any e) || Nat.blt e.on (i0 + j)) = true ∧ rowB ops o fo m 0 (fs.take (i0 + j)) = true
  | [], ms, i0, _, j, o, fo', h => by simp at h
  | (o0, some fo0) :: r, [], i0, h, j, o, fo', hj => by simp [rowsB] at h
  | (o0, some fo0) :: r, m :: ms, i0, h, j, o, fo', hj => by
    simp only [rowsB, Bool.and_eq_true] at h
    cases j with
    | zero => simp at hj; obtain ⟨rfl, rfl⟩ := hj; exact ⟨fo0, m, rfl, rfl, h.1, h.2.1⟩
    | succ j =>
      obtain ⟨fo, m', h1, h2, h3, h4⟩ := rowsB_get h.2.2 j o fo' (by simpa using hj)
      rw [show i0 + 1 + j = i0 + (j + 1) by omega] at h3 h4
      exact ⟨fo, m', h1, by simpa using h2, h3, h4⟩
  | (_, none) :: r, ms, i0, h, j, o, fo', hj => by cases ms <;> simp [rowsB] at h

theorem okDraw_spec {ops : Array Oper} (h : okDraw cx ops = true) : DrawOk cx ops := by
  unfold okDraw at h
  have get : ∀ (i : Nat) o, ops[i]? = some o → (ops.toList.map fun o => (o, footOf cx ops.toList o))[i]? = some (o, footOf cx ops.toList o) := by
    intro i o hi; simp [hi]
  refine ⟨fun i o hi => ?_, fun i o hi e he hb => ?_, fun i p o po fo fp hi hp hpo hfo hfp => ?_⟩
  · obtain ⟨fo, _, h1, _⟩ := rowsB_get h i o _ (get i o hi)
    exact ⟨fo, h1⟩
  · obtain ⟨fo, _, _, _, h3, _⟩ := rowsB_get h i o _ (get i o hi)
    have := List.all_eq_true.1 h3 e (Array.mem_toList_iff.2 he)
    simp only [hb, Bool.not_true, Bool.false_or, Nat.zero_add] at this
    exact Nat.le_of_ble_eq_true this
  · obtain ⟨fo', m, h1, h2, _, h4⟩ := rowsB_get h i o _ (get i o hi)
    rw [hfo] at h1; cases h1
    have hpt : ((ops.toList.map fun o => (o, footOf cx ops.toList o)).take (0 + i))[p]? = some (po, footOf cx ops.toList po) := by
      rw [List.getElem?_take, if_pos (by omega)]; exact get p po hpo
    obtain ⟨fp', h5, h6⟩ := rowB_get h4 p po _ hpt
    rw [hfp] at h5; cases h5
    rw [Nat.zero_add] at h6
    rcases h6 with h6 | h6
    · left; simp only [List.getD, h2]; exact h6
    · exact .inr h6

/-! ### All orders -/

/-- Operations by their numbers, one after another. -/
def seqI (cx : Cx) (hc : FuncId → List D → Sto → (D → Sto → Option R) → Option R) (ops : Array Oper) : List Nat → St → (St → Option R) → Option R
  | [], st, k => k st
  | i :: r, st, k => match ops[i]? with
    | some o => gOp cx hc ops o st fun st' => seqI cx hc ops r st' k
    | none => seqI cx hc ops r st k

theorem evOps_seqI {ops : Array Oper} {k : St → Option R} : ∀ (l : List Oper) (n : Nat) (st : St), (∀ (j : Nat), ops[n + j]? = l[j]?) → evOps cx hc ops l st k = seqI cx hc ops (List.range' n l.length) st k
  | [], n, st, _ => rfl
  | o :: r, n, st, h => by
    have h0 : ops[n]? = some o := by simpa using h 0
    have ih : ∀ st, evOps cx hc ops r st k = seqI cx hc ops (List.range' (n + 1) r.length) st k := fun st => evOps_seqI r (n + 1) st (fun j => by
      have := h (j + 1)
      rw [show n + (j + 1) = n + 1 + j by omega] at this
      simpa using this)
    simp only [evOps, List.length_cons, List.range'_succ, seqI, h0, ih]

theorem gOp_some {ops : Array Oper} {o : Oper} {f : Foot} (hb : BndOk cx hc) (ho : footOf cx ops.toList o = some f) {st : St} {k : St → Option R} {r : R} (h : gOp cx hc ops o st k = some r) :
    ∃ st', k st' = some r ∧ ∀ k, gOp cx hc ops o st k = k st' := by
  obtain ⟨s, hs, _⟩ := (gOp_foot (footOf_ok hb ho) (foot_ac ho)).nf st
  cases s with
  | none => rw [hs] at h; cases h
  | some st' => rw [hs] at h; exact ⟨st', h, fun k => hs k⟩

theorem pull {ops : Array Oper} (hb : BndOk cx hc) {i : Nat} {o : Oper} {fo : Foot} (hi : ops[i]? = some o) (ho : footOf cx ops.toList o = some fo) {post : List Nat} {k : St → Option R} {r : R} :
    ∀ (pre : List Nat), (∀ p, p ∈ pre → ∀ po, ops[p]? = some po → ∃ fp, footOf cx ops.toList po = some fp ∧ commB ops po o fp fo = true) → ∀ st, seqI cx hc ops (pre ++ i :: post) st k = some r →
      gOp cx hc ops o st (fun st' => seqI cx hc ops (pre ++ post) st' k) = some r
  | [], _, st, h => by simpa [seqI, hi] using h
  | p :: pre, hp, st, h => by
    have hp' := fun q hq => hp q (List.mem_cons_of_mem _ hq)
    simp only [List.cons_append, seqI] at h ⊢
    cases hpo : ops[p]? with
    | none =>
      simp only [hpo] at h ⊢
      exact pull hb hi ho pre hp' st h
    | some po =>
      simp only [hpo] at h ⊢
      obtain ⟨fp, hfp, hcm⟩ := hp p (List.mem_cons_self ..) po hpo
      obtain ⟨st1, h1, h2⟩ := gOp_some hb hfp h
      have h3 := pull hb hi ho pre hp' st1 h1
      refine comm_swap hb hfp ho hcm ?_
      rw [h2]
      exact h3

def rem (n : Nat) (listed : Array Bool) : List Nat := (List.range n).filter fun i => !listed.getD i true

theorem mem_rem {n i : Nat} {listed : Array Bool} : i ∈ rem n listed ↔ i < n ∧ listed.getD i true = false := by
  simp [rem]

theorem rem_split {n i : Nat} {listed : Array Bool} (hi : i < n) (hl : listed.getD i true = false) (hs : listed.size = n) :
    ∃ pre post, rem n listed = pre ++ i :: post ∧ rem n (listed.setIfInBounds i true) = pre ++ post ∧ ∀ p, p ∈ pre → p < i ∧ listed.getD p true = false := by
  obtain ⟨m, rfl⟩ : ∃ m, n = i + (1 + m) := ⟨n - i - 1, by omega⟩
  let fl : Nat → Bool := fun i => !listed.getD i true
  have hr : List.range (i + (1 + m)) = List.range i ++ i :: (List.range m).map (fun x => i + (1 + x)) := by
    rw [List.range_add, List.range_add]
    simp [List.map_map, Function.comp_def]
  refine ⟨(List.range i).filter fl, ((List.range m).map (fun x => i + (1 + x))).filter fl, ?_, ?_, fun p hp => ?_⟩
  · unfold rem
    rw [hr, List.filter_append, List.filter_cons]
    simp only [hl, Bool.not_false, if_true]
    rfl
  · unfold rem
    rw [hr, List.filter_append, List.filter_cons]
    have h1 : (!(listed.setIfInBounds i true).getD i true) = false := by
      have : i < listed.size := by omega
      simp [this]
    rw [h1]
    simp only [Bool.false_eq_true, if_false]
    congr 1
    · refine List.filter_congr (fun x hx => ?_)
      have : i ≠ x := by have := List.mem_range.1 hx; omega
      simp only [fl, getD_set_ne true this]
    · refine List.filter_congr (fun x hx => ?_)
      obtain ⟨y, _, rfl⟩ := List.mem_map.1 hx
      have : i ≠ i + (1 + y) := by omega
      simp only [fl, getD_set_ne true this]
  · simp only [List.mem_filter, List.mem_range, fl, Bool.not_eq_true'] at hp
    exact hp

def Closed (ops : Array Oper) (listed : Array Bool) : Prop :=
  ∀ (i : Nat) o, ops[i]? = some o → listed.getD i false = true → ∀ e ∈ o.after, Region.binds .any e = true → listed.getD e.on false = true

theorem anc_listed {ops : Array Oper} {listed : Array Bool} (hcl : Closed ops listed) : ∀ (i : Nat) o, ops[i]? = some o → (∀ e ∈ o.after, Region.binds .any e = true → listed.getD e.on false = true) →
    ∀ p, ((masks [] ops.toList).getD i 0).testBit p = true → listed.getD p false = true := by
  intro i
  induction i using Nat.strongRecOn with
  | _ i ih =>
    intro o hi hready p hp
    have hm := masks_get ops.toList [] i o (by simpa using hi)
    simp only [List.length_nil, Nat.zero_add] at hm
    rw [List.getD, hm, Option.getD_some] at hp
    obtain ⟨e, he, hb, h⟩ := edgeMask_spec hp
    have hle := hready e (Array.mem_toList_iff.1 he) hb
    rcases h with h | h
    · exact h ▸ hle
    · have hlt : e.on < i := by
        rcases Nat.lt_or_ge e.on i with h' | h'
        · exact h'
        · exfalso
          rw [List.getD, List.getElem?_eq_none (by simp only [List.length_take]; omega)] at h
          simp at h
      rw [List.getD, List.getElem?_take, if_pos hlt] at h
      cases ho : ops[e.on]? with
      | none =>
        exfalso
        have h1 : i < ops.size := (Array.getElem?_eq_some_iff.1 hi).1
        have h2 : ops.size ≤ e.on := by simpa using ho
        omega
      | some oe => exact ih e.on hlt oe ho (hcl e.on oe ho hle) p h

theorem any_sound (hcx : CxOk P X cx) (hok : HcOk P X hc) (hb : BndOk cx hc) {ops : Array Oper} (hd : DrawOk cx ops) {Q : Exit → Act → World → Prop} {k : St → Option R} {r : R} {g0 : Gh} {w0 : World}
    (hq : ∀ a' w' g' env' sto', k ⟨env', sto'⟩ = some r → Sim X g' w' env' a'.tmps.toList sto' → Ext g0 w0 g' w' → a'.defers = [] → Q .normal a' w') :
    ∀ (fuel : Nat) (listed : Array Bool) (env : List D) (sto : Sto) (a : Act) (w : World) (g : Gh), Closed ops listed → listed.size = ops.size → (rem ops.size listed).length ≤ fuel → seqI cx hc ops (rem ops.size listed) ⟨env, sto⟩ k = some r →
      Sim X g w env a.tmps.toList sto → Ext g0 w0 g w → a.defers = [] → wpAny P .any ops Q fuel listed a w := by
  have done : ∀ (listed : Array Bool) (env : List D) (sto : Sto) (a : Act) (w : World) (g : Gh), listed.size = ops.size → Region.ready .any ops listed = [] → seqI cx hc ops (rem ops.size listed) ⟨env, sto⟩ k = some r →
      Sim X g w env a.tmps.toList sto → Ext g0 w0 g w → a.defers = [] → Q .normal a w := by
    intro listed env sto a w g hsz hr h hs e hdf
    cases hrem : rem ops.size listed with
    | nil => rw [hrem] at h; exact hq _ _ _ _ _ h hs e hdf
    | cons i rest =>
      exfalso
      -- the least number that is left may come up
      have hi := mem_rem.1 (show i ∈ rem ops.size listed by rw [hrem]; exact List.mem_cons_self ..)
      have hmin : ∀ j, j < i → listed.getD j false = true := by
        intro j hj
        cases hlj : listed.getD j true with
        | true =>
          have : j < listed.size := by omega
          simp only [Array.getD, this, dif_pos] at hlj ⊢
          exact hlj
        | false =>
          exfalso
          obtain ⟨pre, post, h1, _, h3⟩ := rem_split hi.1 hi.2 hsz
          have hjm : j ∈ rem ops.size listed := mem_rem.2 ⟨by omega, hlj⟩
          rw [h1] at hrem
          cases pre with
          | cons p pre =>
            simp only [List.cons_append, List.cons.injEq] at hrem
            have := (h3 p (List.mem_cons_self ..)).1
            omega
          | nil =>
            have hsorted : (rem ops.size listed).Pairwise (· < ·) := List.Pairwise.filter _ List.pairwise_lt_range
            rw [h1] at hjm hsorted
            simp only [List.nil_append, List.mem_cons] at hjm hsorted
            rcases hjm with rfl | hjm
            · omega
            · have := (List.pairwise_cons.1 hsorted).1 j hjm; omega
      have hio : ops[i]? = some ops[i] := by simp [hi.1]
      have : i ∈ Region.ready .any ops listed := mem_ready.2 ⟨hi.2, ops[i], hio, fun e he hbd => hmin e.on (hd.topo i _ hio e he hbd)⟩
      rw [hr] at this; cases this
  intro fuel
  induction fuel with
  | zero =>
    intro listed env sto a w g hcl hsz hf h hs e hdf
    have h0 : rem ops.size listed = [] := List.eq_nil_of_length_eq_zero (by omega)
    have hr : Region.ready .any ops listed = [] := by
      cases hr : Region.ready .any ops listed with
      | nil => rfl
      | cons i rest =>
        have hi : i ∈ Region.ready .any ops listed := by rw [hr]; exact List.mem_cons_self ..
        obtain ⟨h1, o, ho, _⟩ := mem_ready.1 hi
        have : i ∈ rem ops.size listed := mem_rem.2 ⟨(Array.getElem?_eq_some_iff.1 ho).1, h1⟩
        rw [h0] at this; cases this
    exact ⟨hr, done listed env sto a w g hsz hr h hs e hdf⟩
  | succ fuel ih =>
    intro listed env sto a w g hcl hsz hf h hs e hdf
    refine ⟨fun hr => done listed env sto a w g hsz hr h hs e hdf, fun i hi => ?_⟩
    obtain ⟨h1, o, ho, hedges⟩ := mem_ready.1 hi
    have hlt : i < ops.size := (Array.getElem?_eq_some_iff.1 ho).1
    obtain ⟨pre, post, hr1, hr2, hpre⟩ := rem_split hlt h1 hsz
    obtain ⟨fo, hfo⟩ := hd.foot i o ho
    have hanc := anc_listed hcl i o ho hedges
    rw [hr1] at h hf
    have hp := pull hb ho hfo pre (fun p hp po hpo => by
      obtain ⟨fp, hfp⟩ := hd.foot p po hpo
      obtain ⟨hpi, hpl⟩ := hpre p hp
      rcases hd.row i p o po fo fp ho hpi hpo hfo hfp with hx | hx
      · exfalso
        have h5 := hanc p hx
        have : p < listed.size := by omega
        simp only [Array.getD, this, dif_pos] at h5 hpl
        rw [h5] at hpl; cases hpl
      · exact ⟨fp, hfp, hx⟩) _ h
    unfold wpOp
    rw [ho]
    refine gOp_sound hcx hok hp hs hdf (fun a' w' g' env' sto' hk hs' he hd' => ?_)
    refine ih (listed.setIfInBounds i true) env' sto' a' w' g' ?_ (by simp [hsz]) (by rw [hr2]; simp at hf ⊢; omega) (by rw [hr2]; exact hk) hs' (e.trans he) hd'
    intro j oj hoj hlj e' he' hbd
    by_cases hij : i = j
    · subst hij
      rw [ho] at hoj; cases hoj
      exact getD_set_true (hedges e' he' hbd)
    · rw [getD_set_ne false hij] at hlj
      exact getD_set_true (hcl j oj hoj hlj e' he' hbd)

end
end Go.Ev

/-! Walking through code. -/
namespace Go.Ev
section
variable {P : Program} {X : Cfg} {R : Type} {cx : Cx}

theorem underL_get {n : Nat} : ∀ {cs : List D}, D.under.underL n cs = true → ∀ (j : Nat) c, cs[j]? = some c → c.under n = true
  | [], _, j, c, h => by simp at h
  | d :: r, h, 0, c, hj => by
    unfold D.under.underL at h; split at h
    · rename_i h1; simp at hj; exact hj ▸ h1
    · cases h
  | d :: r, h, j + 1, c, hj => by
    unfold D.under.underL at h; split at h
    · simp at hj; exact underL_get h j c hj
    · cases h

theorem underAll_get {n : Nat} : ∀ {cs : List D}, underAll n cs = true → ∀ (j : Nat) c, cs[j]? = some c → c.under n = true
  | [], _, j, c, h => by simp at h
  | d :: r, h, 0, c, hj => by
    unfold underAll at h; split at h
    · rename_i h1; simp at hj; exact hj ▸ h1
    · cases h
  | d :: r, h, j + 1, c, hj => by
    unfold underAll at h; split at h
    · simp at hj; exact underAll_get h j c hj
    · cases h

theorem underSto_get {n : Nat} : ∀ {m : Nat} {sto : Sto}, underSto n m sto = true → ∀ (i : Nat) cs, i < m → sto[i]? = some cs → underAll n cs = true
  | 0, _, _, i, cs, h, _ => by omega
  | _ + 1, [], _, i, cs, _, hj => by simp at hj
  | m + 1, d :: r, h, 0, c, _, hj => by
    unfold underSto at h; split at h
    · rename_i h1; simp at hj; exact hj ▸ h1
    · cases h
  | m + 1, d :: r, h, j + 1, c, hm, hj => by
    unfold underSto at h; split at h
    · simp at hj; exact underSto_get h j c (by omega) hj
    · cases h

theorem rep_under {φ : List Nat} {G : Nat → Nat} {w : World} {n : Nat} {d : D} {v : Value} (h : RepV X φ G w d v) : d.under n = true → RepV X (φ.take n) G w d v := by
  induction h with
  | any v => exact fun _ => .any v
  | int h => exact fun _ => .int h
  | bool b => exact fun _ => .bool b
  | str s h => exact fun _ => .str s h
  | errNil => exact fun _ => .errNil
  | errOther t v => exact fun _ => .errOther t v
  | errFault hp h0 h1 h2 hc ha hu ih => exact fun _ => .errFault hp h0 h1 h2 hc ha (ih rfl)
  | errJoined hp h0 h1 hx hy ihx ihy => exact fun _ => .errJoined hp h0 h1 (ihx rfl) (ihy rfl)
  | nilp => exact fun _ => .nilp
  | ptr h =>
    rename_i i off b
    intro hu
    have : i < n := Nat.le_of_ble_eq_true hu
    exact .ptr (by rw [List.getElem?_take, if_pos this]; exact h)
  | box vs hp hc hcl hr ih => exact fun _ => .box vs hp hc hcl (fun j c hj => (hr j c hj).closed (hcl j c hj))
  | nils => exact fun _ => .nils
  | slNil => exact fun _ => .slNil
  | slE hm hcap hmax => exact fun _ => .slE hm hcap hmax
  | sl vs hlen hcap hmax hp hc hr ih => exact fun _ => .sl vs hlen hcap hmax hp hc (fun i x hx j c hj => (hr i x hx j c hj).closed (cells_closed _ _ _ _ hj))
  | nilf => exact fun _ => .nilf
  | fn hl hr ih => exact fun h => .fn hl (fun j c hj => ih j c hj (underL_get h j c hj))
  | agg hl hr ih => exact fun h => .agg hl (fun j c hj => ih j c hj (underL_get h j c hj))
  | tup hl hr ih => exact fun h => .tup hl (fun j c hj => ih j c hj (underL_get h j c hj))

/-- Objects that nothing leads to are let go. -/
theorem Sim.trunc {g : Gh} {w : World} {env : List D} {vals : List Value} {sto : Sto} (h : Sim X g w env vals sto) (n : Nat) (he : underAll n env = true) (hst : underSto n n sto = true) :
    Sim X { g with φ := g.φ.take n } w env vals (sto.take n) := by
  refine ⟨h.len, fun t d v hd hv => rep_under (h.rep t d v hd hv) (underAll_get he t d hd), by simp [h.slen], ?_, ?_, h.kdom, h.gdom⟩
  · intro i b cs hb hi
    simp only [List.getElem?_take] at hb hi
    split at hb
    · rename_i hin
      rw [if_pos hin] at hi
      obtain ⟨k, g0, cell⟩ := h.obj i b cs hb hi
      refine ⟨k, g0, fun j c hj => ?_⟩
      obtain ⟨v, hv, hf, hr⟩ := cell j c hj
      exact ⟨v, hv, hf, rep_under hr (underAll_get (underSto_get hst i cs hin hi) j c hj)⟩
    · cases hb
  · intro ℓ ty l a len cap ho
    refine h.own ℓ ty l a len cap ?_
    generalize hx : D.sl .own ty l = x at ho ⊢
    generalize hy : Value.slice (some a) len cap = y at ho ⊢
    cases ho with
    | leaf hd hv => exact .leaf hd hv
    | agg hd hv hj he => exact .agg hd hv hj he
    | tup hd hv hj he => exact .tup hd hv hj he
    | cell hi hb hj hv =>
      simp only [List.getElem?_take] at hb hi
      split at hi
      · rename_i hin; rw [if_pos hin] at hb; exact .cell hi hb hj hv
      · cases hi

theorem Ext.trunc {g g' : Gh} {w w' : World} (e : Ext g w g' w') {n : Nat} (hn : g.φ.length ≤ n) : Ext g w { g' with φ := g'.φ.take n } w' :=
  ⟨e.size, e.os, e.tape, e.output, e.blk, e.cell, e.gmono, e.gsame, e.kdom, fun i b h => by
    have : i < n := Nat.lt_of_lt_of_le (List.getElem?_eq_some_iff.1 h).1 hn
    show (g'.φ.take n)[i]? = some b
    rw [List.getElem?_take, if_pos this]; exact e.φ i b h⟩

theorem keepFrom_length (keep : List (Nat × Sh)) : ∀ (i : Nat) (l : List D), (keepFrom keep i l).length = l.length
  | _, [] => rfl
  | i, d :: r => by simp [keepFrom, keepFrom_length keep (i + 1) r]

theorem keepFrom_wk (keep : List (Nat × Sh)) : ∀ (i : Nat) (l : List D) (t : Nat) d', (keepFrom keep i l)[t]? = some d' → ∃ d, l[t]? = some d ∧ Wk d d'
  | _, [], t, d', h => by simp [keepFrom] at h
  | i, d :: r, 0, d', h => by
    simp only [keepFrom, List.getElem?_cons_zero, Option.some.injEq] at h
    refine ⟨d, rfl, ?_⟩
    split at h
    · exact .inr (.inr ⟨_, h.symm⟩)
    · exact .inr (.inl h.symm)
  | i, d :: r, t + 1, d', h => by
    simp only [keepFrom, List.getElem?_cons_succ] at h
    simpa using keepFrom_wk keep (i + 1) r t d' h

theorem shapeFrom_wk (sh : List (Nat × Sh)) : ∀ (i : Nat) (l : List D) (t : Nat) d', (shapeFrom sh i l)[t]? = some d' → ∃ d, l[t]? = some d ∧ Wk d d'
  | _, [], t, d', h => by simp [shapeFrom] at h
  | i, d :: r, 0, d', h => by
    simp only [shapeFrom, List.getElem?_cons_zero, Option.some.injEq] at h
    refine ⟨d, rfl, ?_⟩
    split at h
    · exact .inr (.inr ⟨_, h.symm⟩)
    · exact .inl h.symm
  | i, d :: r, t + 1, d', h => by
    simp only [shapeFrom, List.getElem?_cons_succ] at h
    simpa using shapeFrom_wk sh (i + 1) r t d' h

theorem shapeSto_length (sh : List (Nat × List (Nat × Sh))) : ∀ (i : Nat) (l : Sto), (shapeSto sh i l).length = l.length
  | _, [] => rfl
  | i, d :: r => by simp [shapeSto, shapeSto_length sh (i + 1) r]

theorem shapeSto_wk (sh : List (Nat × List (Nat × Sh))) : ∀ (i : Nat) (l : Sto) (t : Nat) cs', (shapeSto sh i l)[t]? = some cs' →
    ∃ cs, l[t]? = some cs ∧ ∀ (j : Nat) d', cs'[j]? = some d' → ∃ d, cs[j]? = some d ∧ Wk d d'
  | _, [], t, d', h => by simp [shapeSto] at h
  | i, d :: r, 0, d', h => by
    simp only [shapeSto, List.getElem?_cons_zero, Option.some.injEq] at h
    refine ⟨d, rfl, fun j x hj => ?_⟩
    split at h
    · rw [← h] at hj; exact shapeFrom_wk _ 0 d j x hj
    · rw [← h] at hj; exact ⟨x, hj, .inl rfl⟩
  | i, d :: r, t + 1, d', h => by
    simp only [shapeSto, List.getElem?_cons_succ] at h
    simpa using shapeSto_wk sh (i + 1) r t d' h

theorem Sim.norm {g : Gh} {w : World} {env : List D} {vals : List Value} {sto : Sto} (lh : LH) (n : Nat) (h : Sim X g w env vals sto) :
    ∃ g', Sim X g' w (norm lh n ⟨env, sto⟩).env vals (norm lh n ⟨env, sto⟩).sto ∧ ∀ g0 w0, g0.φ.length ≤ n → Ext g0 w0 g w → Ext g0 w0 g' w := by
  have h1 := h.weaken (keepFrom_length lh.env 0 env) (keepFrom_wk lh.env 0 env) (shapeSto_length lh.sto 0 sto) (shapeSto_wk lh.sto 0 sto)
  unfold Ev.norm
  dsimp only
  split
  · rename_i he hst
    exact ⟨_, h1.trunc n he hst, fun g0 w0 hn e => e.trunc hn⟩
  · exact ⟨g, h1, fun _ _ _ e => e⟩

theorem norm_sto (lh : LH) (n : Nat) (st : St) (h : n = st.sto.length) : (norm lh n st).sto.length = n := by
  unfold norm
  dsimp only
  split
  · simp [shapeSto_length, h]
  · simp [shapeSto_length, h]

/-- The contract of a loop is what the rounds come to. -/
def LOkR (cx : Cx) (hc : FuncId → List D → Sto → (D → Sto → Option R) → Option R) (keep : List (Nat × LH)) (c : Code) : Prop :=
  ∀ lh lc, (firstRegion c).bind (look keep) = some lh → lh.con = some lc → ∀ (st : St) (k : Exit → St → Option R) (r : R), lc R (norm lh st.sto.length st) k = some r →
    ∃ n, loopN (fun st k => evCode cx hc keep c st k) (norm lh st.sto.length) (fun e s => k e (normO lh st.sto.length s)) n (norm lh st.sto.length st) = some r

/-- The contract of what follows is what it comes to. -/
def JOkR (cx : Cx) (hc : FuncId → List D → Sto → (D → Sto → Option R) → Option R) (keep : List (Nat × LH)) (c : Code) : Prop :=
  ∀ lh lc, joinAt keep c = some lh → lh.con = some lc → ∀ (n : Nat) (st : St) (k : Exit → St → Option R) (r : R), lc R (norm lh n st) k = some r → evCode cx hc keep c (norm lh n st) (fun e s => k e (normO lh n s)) = some r

structure WalkOk (P : Program) (X : Cfg) (cx : Cx) (hc : FuncId → List D → Sto → (D → Sto → Option R) → Option R) : Prop where
  base : CxOk P X cx
  mixed : P.follows .mixedOrders = true
  bnd : BndOk cx hc
  calls : HcOk P X hc

def WOk (P : Program) (X : Cfg) (cx : Cx) (hc : FuncId → List D → Sto → (D → Sto → Option R) → Option R) (keep : List (Nat × LH)) (c : Code) : Prop :=
  ∀ env sto a w g k r (Q : Exit → Act → World → Prop), evCode cx hc keep c ⟨env, sto⟩ k = some r → Sim X g w env a.tmps.toList sto → a.defers = [] →
    (∀ e a' w' g' env' sto', k e ⟨env', sto'⟩ = some r → Sim X g' w' env' a'.tmps.toList sto' → Ext g w g' w' → a'.defers = [] → Q e a' w') → c.wp P Q a w

theorem loopN_sound {hc : FuncId → List D → Sto → (D → Sto → Option R) → Option R} {keep : List (Nat × LH)} {c : Code} (hw : WOk P X cx hc keep c) (nm : St → St) (n0 : Nat)
    (hnm : ∀ {g : Gh} {w : World} {env : List D} {vals : List Value} {sto : Sto}, Sim X g w env vals sto → ∃ g', Sim X g' w (nm ⟨env, sto⟩).env vals (nm ⟨env, sto⟩).sto ∧ ∀ g0 w0, g0.φ.length ≤ n0 → Ext g0 w0 g w → Ext g0 w0 g' w)
    {k : Exit → St → Option R} {r : R} {g0 : Gh} {w0 : World} (hn0 : g0.φ.length ≤ n0) {Q : Exit → Act → World → Prop}
    (hq : ∀ e a' w' g' env' sto', k e ⟨env', sto'⟩ = some r → Sim X g' w' env' a'.tmps.toList sto' → Ext g0 w0 g' w' → a'.defers = [] → Q e a' w') :
    ∀ (n : Nat) (st : St) (a : Act) (w : World) (g : Gh), loopN (fun st k => evCode cx hc keep c st k) nm k n st = some r → Sim X g w st.env a.tmps.toList st.sto → Ext g0 w0 g w → a.defers = [] → Code.rounds P c Q n a w
  | 0, _, _, _, _, h, _, _, _ => by cases h
  | n + 1, st, a, w, g, h, hs, e, hd => by
    unfold loopN at h
    refine hw st.env st.sto a w g _ r _ h hs hd (fun ex a' w' g' env' sto' hk hs' e' hd' => ?_)
    cases ex with
    | normal =>
      obtain ⟨g2, hs2, he2⟩ := hnm hs'
      exact loopN_sound hw nm n0 hnm hn0 hq n _ a' w' g2 hk hs2 (he2 g0 w0 hn0 (e.trans e')) hd'
    | _ => exact hq _ a' w' g' env' sto' hk hs' (e.trans e') hd'

theorem rd_bool {g : Gh} {w : World} {env : List D} {sto : Sto} {a : Act} (hs : Sim X g w env a.tmps.toList sto) {c : Operand} {v : Bool} (h : rd env c = .bool v) : a.eval c = .bool v := by
  have := hs.read c
  rw [h] at this
  exact rep_bool this

theorem evCode_sound {hc : FuncId → List D → Sto → (D → Sto → Option R) → Option R} (hok : WalkOk P X cx hc) {keep : List (Nat × LH)} :
    ∀ (c : Code), (∀ c' ∈ loopsIn c, LOkR cx hc keep c') → (∀ c' ∈ joinsIn c, JOkR cx hc keep c') → WOk P X cx hc keep c
  | .skip, _, _ => fun env sto a w g k r Q h hs hd hq => wp_skip (hq _ _ _ _ _ _ h hs (.refl _ _) hd)
  | .region id ops draw, _, _ => fun env sto a w g k r Q h hs hd hq => by
    unfold evCode at h
    cases draw with
    | true =>
      dsimp only at h
      split at h
      · rename_i hdr
        have al : Alike w { w with drawn := w.drawn + 1 } := ⟨rfl, rfl, rfl, rfl⟩
        refine wp_region_any hok.mixed (any_sound hok.base hok.calls hok.bnd (okDraw_spec hdr) (k := k .normal) (r := r) (g0 := g) (w0 := w) (fun a' w' g' env' sto' hk hs' e hd' => hq _ _ _ _ _ _ hk hs' e hd')
          ops.size (Array.replicate ops.size false) env sto a _ g (fun i o _ hl => ?_) (by simp) (by unfold rem; exact Nat.le_trans (List.length_filter_le _ _) (by simp)) ?_ (hs.alike al) (.alike g al) hd)
        · exfalso; simp only [Array.getD] at hl; split at hl <;> simp at hl
        · have e : rem ops.size (Array.replicate ops.size false) = List.range' 0 ops.toList.length := by
            rw [← List.range_eq_range', Array.length_toList]
            unfold rem
            rw [List.filter_eq_self]
            intro i hi
            have := List.mem_range.1 hi
            simp [this]
          rw [e, ← evOps_seqI ops.toList 0 _ (fun j => by simp)]
          exact h
      · cases h
    | false => exact wp_region_list (evOps_sound hok.base hok.calls ops.toList env sto a w g h hs hd (fun a' w' g' env' sto' hk hs' e hd' => hq _ _ _ _ _ _ hk hs' e hd'))
  | .seq x y, hl, hj => fun env sto a w g k r Q h hs hd hq => by
    have hy := evCode_sound hok y (fun c' hc' => hl c' (by simp [loopsIn, hc'])) (fun c' hc' => hj c' (by simp [joinsIn, hc']))
    have hlen : g.φ.length ≤ sto.length := Nat.le_of_eq hs.slen
    unfold evCode at h
    refine wp_seq (evCode_sound hok x (fun c' hc' => hl c' (by simp [loopsIn, hc'])) (fun c' hc' => hj c' (by simp [joinsIn, hc'])) env sto a w g _ r _ h hs hd (fun e a' w' g' env' sto' hk hs' e' hd' => ?_))
    cases e with
    | normal =>
      dsimp only at hk
      split at hk
      · exact hy env' sto' a' w' g' _ r _ hk hs' hd' (fun e2 a2 w2 g2 env2 sto2 hk2 hs2 e2' hd2 => hq _ _ _ _ _ _ hk2 hs2 (e'.trans e2') hd2)
      · rename_i lh hlh
        obtain ⟨g1, hs1, e1⟩ := hs'.norm lh sto.length
        split at hk
        · rename_i lc hlc
          have hk2 := hj y (by simp [joinsIn]) lh lc hlh hlc _ _ _ _ hk
          refine hy _ _ a' w' g1 _ r _ hk2 hs1 hd' (fun e2 a2 w2 g2 env2 sto2 hk2 hs2 e2' hd2 => ?_)
          obtain ⟨g3, hs3, e3⟩ := hs2.norm { env := lh.out, sto := [], out := [], con := none } sto.length
          exact hq _ _ _ _ _ _ hk2 hs3 (e3 g w hlen ((e1 g w hlen e').trans e2')) hd2
        · exact hy _ _ a' w' g1 _ r _ hk hs1 hd' (fun e2 a2 w2 g2 env2 sto2 hk2 hs2 e2' hd2 => hq _ _ _ _ _ _ hk2 hs2 ((e1 g w hlen e').trans e2') hd2)
    | _ => exact hq _ _ _ _ _ _ hk hs' e' hd'
  | .cond c x y, hl, hj => fun env sto a w g k r Q h hs hd hq => by
    have hx := evCode_sound hok x (fun c' hc' => hl c' (by simp [loopsIn, hc'])) (fun c' hc' => hj c' (by simp [joinsIn, hc']))
    have hy := evCode_sound hok y (fun c' hc' => hl c' (by simp [loopsIn, hc'])) (fun c' hc' => hj c' (by simp [joinsIn, hc']))
    have key : ∀ b : Bool, rd env c = .bool b → ∀ env', Sim X g w env' a.tmps.toList sto → (if b then evCode cx hc keep x ⟨env', sto⟩ k else evCode cx hc keep y ⟨env', sto⟩ k) = some r → (Code.cond c x y).wp P Q a w := by
      intro b hb env' hs' h'
      refine wp_cond (rd_bool hs hb) ?_
      cases b with
      | true => exact hx env' sto a w g k r Q h' hs' hd hq
      | false => exact hy env' sto a w g k r Q h' hs' hd hq
    have hset : ∀ (t : Tmp) (b : Bool), c = .tmp t → rd env c = .bool b → Sim X g w (env.set t (.bool b)) a.tmps.toList sto := by
      intro t b hc hb
      subst hc
      obtain ⟨v, hv, hr⟩ := hs.getB (t := t) hb (by intro h; cases h)
      have := rep_bool hr
      subst this
      exact hs.setSame (by simpa using hv) (.bool b) rfl
    unfold evCode at h
    split at h
    · rename_i t v hc
      split at h
      · exact key true hc _ (hset _ true rfl hc) h
      · exact key false hc _ (hset _ false rfl hc) h
    · rename_i v hnt hc
      split at h
      · exact key true hc _ hs h
      · exact key false hc _ hs h
    · cases h
  | .block id x, hl, hj => fun env sto a w g k r Q h hs hd hq => by
    unfold evCode at h
    refine wp_block (evCode_sound hok x (fun c' hc' => hl c' (by simpa [loopsIn] using hc')) (fun c' hc' => hj c' (by simpa [joinsIn] using hc')) env sto a w g _ r _ h hs hd (fun e a' w' g' env' sto' hk hs' e' hd' => ?_))
    cases e with
    | exit i =>
      show if i = id then _ else _
      dsimp only at hk
      split at hk
      · rename_i hi
        rw [if_pos (Nat.eq_of_beq_eq_true hi)]; exact hq _ _ _ _ _ _ hk hs' e' hd'
      · rename_i hi
        rw [if_neg (Nat.ne_of_beq_eq_false hi)]; exact hq _ _ _ _ _ _ hk hs' e' hd'
    | _ => exact hq _ _ _ _ _ _ hk hs' e' hd'
  | .loop x, hl, hj => fun env sto a w g k r Q h hs hd hq => by
    have hx := evCode_sound hok x (fun c' hc' => hl c' (by simp [loopsIn, hc'])) (fun c' hc' => hj c' (by simpa [joinsIn] using hc'))
    have hlen : g.φ.length ≤ sto.length := Nat.le_of_eq hs.slen
    unfold evCode at h
    split at h
    · rename_i lh hlh
      obtain ⟨g1, hs1, e1⟩ := hs.norm lh sto.length
      split at h
      · rename_i lc hlc
        obtain ⟨n, hn⟩ := hl x (by simp [loopsIn]) lh lc hlh hlc ⟨env, sto⟩ _ _ h
        refine wp_loop_rounds n (loopN_sound hx _ sto.length (fun h => h.norm lh sto.length) hlen (fun e2 a2 w2 g2 env2 sto2 hk2 hs2 e2' hd2 => ?_) n _ a w g1 hn hs1 (e1 _ _ hlen (.refl _ _)) hd)
        obtain ⟨g3, hs3, e3⟩ := hs2.norm { env := lh.out, sto := [], out := [], con := none } sto.length
        exact hq _ _ _ _ _ _ hk2 hs3 (e3 g w hlen e2') hd2
      · exact wp_loop_rounds 64 (loopN_sound hx _ sto.length (fun h => h.norm lh sto.length) hlen hq 64 _ a w g1 h hs1 (e1 _ _ hlen (.refl _ _)) hd)
    · exact wp_loop_rounds 64 (loopN_sound hx (fun st => st) sto.length (fun {g w env vals sto} h => ⟨g, h, fun _ _ _ e => e⟩) hlen hq 64 _ a w g h hs (.refl _ _) hd)
  | .exit id, _, _ => fun env sto a w g k r Q h hs hd hq => wp_exit (hq _ _ _ _ _ _ h hs (.refl _ _) hd)
  | .ret, _, _ => fun env sto a w g k r Q h hs hd hq => wp_ret (hq _ _ _ _ _ _ h hs (.refl _ _) hd)
  | .scope _, _, _ => fun env sto a w g k r Q h => by cases h
  | .label _, _, _ => fun env sto a w g k r Q h => by cases h
  | .goto _, _, _ => fun env sto a w g k r Q h => by cases h
  | .rangeFunc _ _ _ _, _, _ => fun env sto a w g k r Q h => by cases h
  | .refuse _, _, _ => fun env sto a w g k r Q h => by cases h

end
end Go.Ev

/-! Functions: bodies, contracts, what is called. -/
namespace Go.Ev
section
variable {P : Program} {X : Cfg} {R : Type} {cx : Cx}

theorem wk_occ {w : World} {s : Sh} {d : D} {v : Value} {φ G} (h : RepV X φ G w d v) {ty l a len cap} (hx : s.on d = .sl .own ty l) (hv : v = .slice (some a) len cap) : d = .sl .own ty l := by
  rcases wk_own (d' := s.on d) (.inr (.inr ⟨s, rfl⟩)) h with e | ⟨h1, _⟩
  · rw [← e]; exact hx
  · exact absurd hv (h1 _ _ _ _ _ hx)

theorem shapeL_length : ∀ (sh : List Sh) (ds : List D), (shapeL sh ds).length = ds.length
  | [], ds => by cases ds <;> rfl
  | _ :: _, [] => rfl
  | s :: r, d :: ds => by simp [shapeL, shapeL_length r ds]

theorem shapeL_get : ∀ (sh : List Sh) (ds : List D) (j : Nat) c', (shapeL sh ds)[j]? = some c' → ∃ c, ds[j]? = some c ∧ (c' = c ∨ ∃ s : Sh, c' = s.on c)
  | [], ds, j, c', h => by cases ds <;> exact ⟨c', h, .inl rfl⟩
  | _ :: _, [], j, c', h => by simp [shapeL] at h
  | s :: r, d :: ds, 0, c', h => by simp [shapeL] at h; exact ⟨d, rfl, .inr ⟨s, h.symm⟩⟩
  | s :: r, d :: ds, j + 1, c', h => by simp [shapeL] at h; simpa using shapeL_get r ds j c' h

theorem rep_tup {φ G} {w : World} {ds : List D} {v : Value} (h : RepV X φ G w (.tup ds) v) : ∃ vs, v = .tuple vs ∧ vs.size = ds.length ∧ ∀ (j : Nat) c, ds[j]? = some c → RepV X φ G w c (vs.getD j undef) := by
  cases h with
  | tup hl hr => exact ⟨_, rfl, hl, hr⟩

theorem Sim.shape {g : Gh} {w : World} {d : D} {v : Value} {sto : Sto} (h : Sim X g w [d] [v] sto) (sh : List Sh) : Sim X g w [shapeD sh d] [v] sto := by
  have hr := h.rep 0 d v rfl rfl
  unfold shapeD
  split
  · rename_i sh ds
    obtain ⟨vs, rfl, hl, hcr⟩ := rep_tup hr
    refine h.re_id rfl ?_ ?_
    · intro t d v hd hv
      cases t with
      | succ t => simp at hd
      | zero =>
        simp at hd hv; subst hd; subst hv
        refine .tup (by rw [shapeL_length]; exact hl) (fun j c' hj => ?_)
        obtain ⟨c, hc, hcc⟩ := shapeL_get _ _ j c' hj
        rcases hcc with rfl | ⟨s, rfl⟩
        · exact hcr j c' hc
        · exact sh_rep s (hcr j c hc)
    · intro ℓ ty l a len cap ho
      generalize hx : D.sl .own ty l = x at ho
      generalize hy : Value.slice (some a) len cap = y at ho
      cases ho with
      | leaf hd hv => rename_i t; cases t <;> simp at hd; subst hd; cases hx
      | agg hd hv hj he => rename_i t _ _ _; cases t <;> simp at hd
      | tup hd hv hj he =>
        rename_i t j cs vs'
        cases t with
        | succ t => simp at hd
        | zero =>
          simp at hd hv; subst hd; subst hv
          obtain ⟨c, hc, hcc⟩ := shapeL_get _ _ j _ hj
          rcases hcc with rfl | ⟨s, hs⟩
          · subst hx; subst hy; exact .tup rfl rfl hc he
          · rw [← hx] at hs
            have := wk_occ (hcr j c hc) hs.symm (he.trans hy.symm)
            subst this; subst hx; subst hy
            exact .tup rfl rfl hc he
      | cell hi hb hj hv => subst hx; subst hy; exact .cell hi hb hj hv
  · rename_i s _
    refine h.weaken rfl ?_ rfl (fun i cs' hi => ⟨cs', hi, fun j d' hj => ⟨d', hj, .inl rfl⟩⟩)
    intro t d' hd
    cases t with
    | succ t => simp at hd
    | zero => simp at hd; subst hd; exact ⟨d, rfl, .inr (.inr ⟨s, rfl⟩)⟩
  · exact h

theorem Sim.cut {g : Gh} {w : World} {d : D} {v : Value} {sto : Sto} (h : Sim X g w [d] [v] sto) (n : Nat) :
    ∃ g', Sim X g' w [d] [v] (cut n d sto) ∧ ∀ g0 w0, g0.φ.length ≤ n → Ext g0 w0 g w → Ext g0 w0 g' w := by
  unfold Ev.cut
  split
  · rename_i h1 h2
    exact ⟨_, h.trunc n (by simp [underAll, h1]) h2, fun g0 w0 hn e => e.trunc hn⟩
  · exact ⟨g, h, fun _ _ _ e => e⟩

/-- Where the results lie. -/
def findT (l : List Tmp) (t : Nat) : Option Nat := l.findIdx? (fun x => Nat.beq x t)

theorem resT_spec : ∀ {rs : List ResultVar} {l : List Tmp}, resT rs = some l → rs = l.map ResultVar.tmp ∧ l.Nodup
  | [], l, h => by cases h; exact ⟨rfl, .nil⟩
  | .cell _ _ :: _, _, h => by cases h
  | .tmp t :: r, l, h => by
    unfold resT at h
    split at h
    · rename_i l' hl
      split at h
      · cases h
      · rename_i hn
        cases h
        obtain ⟨e, hd⟩ := resT_spec hl
        refine ⟨by rw [e]; rfl, List.nodup_cons.2 ⟨fun hm => ?_, hd⟩⟩
        have : l'.any (Nat.beq t) = true := List.any_eq_true.2 ⟨t, hm, Nat.beq_refl t⟩
        rw [this] at hn; cases hn
    · cases h

theorem andThen_ok {α β : Type} (x : α) (w : World) (f : α → World → Result β) : (Result.ok x w).andThen f = f x w := rfl

theorem mapM_tmps {w : World} (tmps : Array Value) (f : ResultVar → Sem Value) (hf : ∀ t, (f (.tmp t)).run P w = .ok (tmps.getD t undef) w) : ∀ (l : List Tmp), ((l.map ResultVar.tmp).mapM f).run P w = .ok (l.map fun t => tmps.getD t undef) w
  | [] => rfl
  | t :: r => by
    have := mapM_tmps tmps f hf r
    simp only [List.map_cons, List.mapM_cons, Sem.run_bind, Sem.run_pure, hf, andThen_ok, this]

def resV (tmps : Array Value) : List Tmp → Value
  | [t] => tmps.getD t undef
  | l => .tuple (l.map fun t => tmps.getD t undef).toArray

theorem results_run {w : World} {fn : Func} {tmps : Array Value} {l : List Tmp} (h : resT fn.results.toList = some l) :
    (results fn tmps).run P w = .ok (resV tmps l) w := by
  obtain ⟨e, _⟩ := resT_spec h
  have e2 : fn.results = (l.map ResultVar.tmp).toArray := by apply Array.ext'; simpa using e
  unfold results
  rw [e2]
  simp only [List.mapM_toArray, Sem.run_bind, Sem.run_map]
  rw [mapM_tmps tmps _ (fun _ => rfl)]
  match l with
  | [] => rfl
  | [t] => rfl
  | t :: s :: r => rfl

theorem Sim.results {g : Gh} {w : World} {env : List D} {tmps : Array Value} {sto : Sto} {fn : Func} (h : Sim X g w env tmps.toList sto) {d : D} (hr : retD fn env = some d) :
    ∃ v g', (Go.results fn tmps).run P w = .ok v w ∧ Sim X g' w [d] [v] sto ∧ ∀ g0 w0, Ext g0 w0 g w → Ext g0 w0 g' w := by
  unfold retD at hr
  split at hr
  · rename_i t hl
    cases hr
    refine ⟨_, { g with κ := fun b => (g.κ b).map fun ℓ => match ℓ with | .env _ j => .env 0 j | ℓ => ℓ }, results_run hl, ?_, fun g0 w0 e => e.trans (Ext.names _)⟩
    have hrep : RepV X g.φ g.G w (env.getD t .any) (tmps.getD t undef) := h.read (a := ⟨tmps, []⟩) (.tmp t)
    refine h.re (fun ℓ => match ℓ with | .env _ j => .env 0 j | ℓ => ℓ) (fun _ => rfl) rfl ?_ ?_
    · intro t' d v hd hv
      cases t' with
      | succ t' => simp at hd
      | zero => cases hd; cases hv; exact hrep
    · intro ℓ ty l a len cap ho
      cases ℓ with
      | env t' j =>
        have ht' := ho.lt
        simp at ht'; subst ht'
        have ht : t < env.length := by
          rcases Nat.lt_or_ge t env.length with h' | h'
          · exact h'
          · exfalso
            rw [getD_out h'] at ho
            exact ho.not_free (d := .any) rfl rfl
        have hv : t < tmps.size := Nat.lt_of_lt_of_eq ht (h.len.trans Array.length_toList)
        refine ⟨.env t j, rfl, ho.shift (t' := t) ?_ ?_⟩
        · rw [rd_tmp_get ht]; rfl
        · show _ = some (tmps.getD t undef)
          simp [hv, Array.getD]
      | obj i => exact ho.not_obj.elim
      | cell i j => exact ⟨.cell i j, rfl, ho.of_slot (fun _ _ h => by cases h)⟩
  · rename_i l hn hl
    cases hr
    have hnd := (resT_spec hl).2
    have hres : (Go.results fn tmps).run P w = .ok (.tuple (l.map fun t => tmps.getD t undef).toArray) w := by
      rw [results_run hl]
      match l, hn with
      | [], _ => rfl
      | [t], hn => exact absurd rfl (hn t)
      | t :: s :: r, _ => rfl
    let ρ : Loc → Loc := fun ℓ => match ℓ with | .env t _ => .env 0 ((l.findIdx? (fun x => Nat.beq x t)).getD 0 + 1) | ℓ => ℓ
    refine ⟨_, { g with κ := fun b => (g.κ b).map ρ }, hres, ?_, fun g0 w0 e => e.trans (Ext.names _)⟩
    have hrep : ∀ t, RepV X g.φ g.G w (env.getD t .any) (tmps.getD t undef) := fun t => h.read (a := ⟨tmps, []⟩) (.tmp t)
    have htop : ∀ {d : D} {v : Value}, RepV X g.φ g.G w d v → RepV X g.φ g.G w d.top v := by
      intro d v hr; unfold D.top; split
      · exact hr
      · exact hr.dup
    refine h.re ρ (fun _ => rfl) rfl ?_ ?_
    · intro t' d v hd hv
      cases t' with
      | succ t' => simp at hd
      | zero =>
        cases hd; cases hv
        refine .tup (by simp) (fun j c hj => ?_)
        simp only [List.getElem?_map, Option.map_eq_some_iff] at hj
        obtain ⟨t, ht, rfl⟩ := hj
        have : (l.map fun t => tmps.getD t undef).toArray.getD j undef = tmps.getD t undef := by
          simp only [Array.getD_eq_getD_getElem?, List.getElem?_toArray, List.getElem?_map, ht]; rfl
        rw [this]; exact htop (hrep t)
    · intro ℓ ty l' a len cap ho
      generalize hx : D.sl .own ty l' = x at ho
      generalize hy : Value.slice (some a) len cap = y at ho
      cases ho with
      | leaf hd hv => rename_i t; cases t <;> simp at hd; subst hd; cases hx
      | agg hd hv hj he => rename_i t _ _ _; cases t <;> simp at hd
      | tup hd hv hj he =>
        rename_i t' j cs vs
        cases t' with
        | succ t' => simp at hd
        | zero =>
          cases hd; cases hv; subst hx; subst hy
          simp only [List.getElem?_map, Option.map_eq_some_iff] at hj
          obtain ⟨t, ht, hte⟩ := hj
          have hlf : env.getD t .any = .sl .own ty l' := by
            unfold D.top at hte; split at hte
            · exact hte
            · rename_i hnl
              exfalso
              generalize env.getD t .any = z at hte hnl
              cases z <;> first | exact hnl rfl | (simp [D.dup] at hte)
              rename_i m _ _; cases m <;> simp [D.leaf] at hnl
          have hv : tmps.getD t undef = .slice (some a) len cap := by
            rw [← he]
            simp only [Array.getD_eq_getD_getElem?, List.getElem?_toArray, List.getElem?_map, ht]; rfl
          have htl : t < env.length := by
            rcases Nat.lt_or_ge t env.length with h' | h'
            · exact h'
            · rw [getD_out h'] at hlf; cases hlf
          have htv : t < tmps.size := Nat.lt_of_lt_of_eq htl (h.len.trans Array.length_toList)
          refine ⟨.env t 0, ?_, .leaf ?_ ?_⟩
          · have hj : j < l.length := (List.getElem?_eq_some_iff.1 ht).1
            have : l.findIdx? (fun x => Nat.beq x t) = some j := by
              rw [List.findIdx?_eq_some_iff_getElem]
              refine ⟨hj, ?_, fun i hi => ?_⟩
              · rw [(List.getElem?_eq_some_iff.1 ht).2]; exact Nat.beq_refl t
              · intro hb
                have e1 := Nat.eq_of_beq_eq_true hb
                have e2 := (List.getElem?_eq_some_iff.1 ht).2
                exact (List.pairwise_iff_getElem.1 hnd i j (Nat.lt_trans hi hj) hj hi) (e1.trans e2.symm)
            simp [ρ, this]
          · rw [rd_tmp_get htl, hlf]
          · rw [← hv]; simp [htv, Array.getD]
      | cell hi hb hj hv => subst hx; subst hy; exact ⟨.cell _ _, rfl, .cell hi hb hj hv⟩
  · cases hr

def evBody (cx : Cx) (hc : FuncId → List D → Sto → (D → Sto → Option R) → Option R) (keep : List (Nat × LH)) (sh : List Sh) (fn : Func) (c : Code) (args : List D) (sto : Sto) (K : D → Sto → Option R) : Option R :=
  evCode cx hc keep c { env := args ++ List.replicate (fn.ntmps - args.length) (.tup []), sto } fun e st => match e with
    | .normal | .ret => match retD fn st.env with
      | some d => K (shapeD sh d) (cut sto.length d st.sto)
      | none => none
    | _ => none

theorem evBody_sound {hc : FuncId → List D → Sto → (D → Sto → Option R) → Option R} (hok : WalkOk P X cx hc) {keep : List (Nat × LH)} {sh : List Sh} {f : FuncId} {fn : Func} {c : Code}
    (hf : P.funcs[f]? = some fn) (hb : fn.body = some c) (hl : ∀ c' ∈ loopsIn c, LOkR cx hc keep c') (hj : ∀ c' ∈ joinsIn c, JOkR cx hc keep c') {args : List D} {sto : Sto} {K : D → Sto → Option R} {r : R} {g : Gh} {w : World} {vals : List Value}
    (h : evBody cx hc keep sh fn c args sto K = some r) (hs : Sim X g w args vals sto) : Calls P f vals.toArray w (CallPost X g w K r) := by
  refine calls_of_wp hf hb ?_
  have h1 := hs.pushAll (ds := List.replicate (fn.ntmps - args.length) (.tup [])) (vs := List.replicate (fn.ntmps - vals.toArray.size) undef) (by simp [hs.len]) (fun j d v hd hv => by
    simp only [List.getElem?_replicate] at hd hv
    split at hd
    · split at hv
      · cases hd; cases hv; exact ⟨.tup rfl (fun j c hj => by simp at hj), rfl⟩
      · cases hv
    · cases hd)
  have e : vals ++ List.replicate (fn.ntmps - vals.toArray.size) undef = (vals.toArray ++ Array.replicate (fn.ntmps - vals.toArray.size) undef).toList := by simp
  rw [e] at h1
  refine evCode_sound hok c hl hj _ _ _ w g _ r _ h h1 rfl (fun ex a' w' g' env' sto' hk hs' e' hd' => ?_)
  have fin : ∀ d, retD fn env' = some d → K (shapeD sh d) (cut sto.length d sto') = some r → a'.defers = [] ∧ ∃ v, (Go.results fn a'.tmps).run P w' = .ok v w' ∧ CallPost X g w K r (.returned v) w' := by
    intro d hd hK
    obtain ⟨v, g2, hrun, hs2, he2⟩ := hs'.results (P := P) hd
    obtain ⟨g3, hs3, he3⟩ := hs2.cut sto.length
    exact ⟨hd', v, hrun, v, _, _, g3, rfl, hK, hs3.shape sh, he3 g w (Nat.le_of_eq hs.slen) (he2 g w e')⟩
  cases ex with
  | normal =>
    dsimp only at hk
    split at hk
    · rename_i d hd; exact fin d hd hk
    · cases hk
  | ret =>
    dsimp only at hk
    split at hk
    · rename_i d hd; exact fin d hd hk
    · cases hk
  | _ => cases hk

/-- A contract holds. -/
def ConOk (P : Program) (X : Cfg) (f : FuncId) (c : Con) : Prop :=
  ∀ R args sto K r g w (vals : List Value), c R args sto K = some r → Sim X g w args vals sto → CallsOp P f vals.toArray w (CallPost X g w K r)

/-- A function with a body, to be entered. -/
def enters (fn : Func) : Bool := fn.body.isSome && !(fn.name == "runtime.NumGoroutine")

theorem run_enter {f : FuncId} {fn : Func} (hf : P.funcs[f]? = some fn) (he : enters fn = true) (args : Array Value) (w : World) : (callFunc f args).run P w = .ok (.enter f args) w := by
  unfold enters at he
  simp only [Bool.and_eq_true, Bool.not_eq_true'] at he
  obtain ⟨h1, h2⟩ := he
  cases hb : fn.body with
  | none => rw [hb] at h1; cases h1
  | some c => simp only [beq_eq_false_iff_ne] at h2; simp [callFunc, hf, h2, hb]

/-- The contracts and the functions that are walked through where they are called. Those of the list 'bnd' come to one answer or to none; the calm ones leave the store as it is. -/
structure CsOk (P : Program) (X : Cfg) (cx : Cx) : Prop where
  base : CxOk P X cx
  mixed : P.follows .mixedOrders = true
  con : ∀ f c, look cx.con f = some c → ConOk P X f c
  funs : ∀ f fn, look cx.funs f = some fn → P.funcs[f]? = some fn ∧ enters fn = true
  bnd : ∀ f, cx.bnd.any (Nat.beq f) = true → ∃ c, look cx.con f = some c ∧ ∀ args sto, ∃ s : Option (D × Sto), (∀ (R : Type) K, c R args sto K = s.bind fun p => K p.1 p.2) ∧ (cx.calm.any (Nat.beq f) = true → ∀ p, s = some p → p.2 = sto)

/-- Calls: by contract, or through the body; there loops are unrolled. -/
def hcN (cx : Cx) : Nat → FuncId → List D → Sto → (D → Sto → Option R) → Option R
  | 0, f, args, sto, K => match look cx.con f with
    | some c => c R args sto K
    | none => none
  | n + 1, f, args, sto, K => match look cx.con f with
    | some c => c R args sto K
    | none => match look cx.funs f with
      | some fn => match fn.body with
        | some c => evBody cx (hcN cx n) [] ((look cx.ret f).getD []) fn c args sto K
        | none => none
      | none => none

theorem hcN_con {n : Nat} {f : FuncId} {c : Con} (h : look cx.con f = some c) (args : List D) (sto : Sto) (K : D → Sto → Option R) : hcN cx n f args sto K = c R args sto K := by
  cases n <;> simp only [hcN, h]

theorem hcN_bnd (h : CsOk P X cx) (n : Nat) : BndOk (R := R) cx (hcN cx n) := by
  intro f hf args sto
  obtain ⟨c, hc, hs⟩ := h.bnd f hf
  obtain ⟨s, h1, h2⟩ := hs args sto
  exact ⟨s, fun K => (hcN_con hc args sto K).trans (h1 R K), h2⟩

theorem hcN_ok (h : CsOk P X cx) : ∀ n, WalkOk P X cx (hcN (R := R) cx n)
  | 0 => by
    refine ⟨h.base, h.mixed, hcN_bnd h 0, ?_⟩
    intro f args sto K r g w vals hc hs
    unfold hcN at hc
    split at hc
    · rename_i c hcc; exact h.con f c hcc _ _ _ _ _ _ _ _ hc hs
    · cases hc
  | n + 1 => by
    refine ⟨h.base, h.mixed, hcN_bnd h (n + 1), ?_⟩
    intro f args sto K r g w vals hc hs
    unfold hcN at hc
    split at hc
    · rename_i c hcc; exact h.con f c hcc _ _ _ _ _ _ _ _ hc hs
    · split at hc
      · rename_i fn hfn
        split at hc
        · rename_i c hb
          obtain ⟨hf, he⟩ := h.funs f fn hfn
          exact .inl ⟨run_enter hf he _ w, evBody_sound (hcN_ok h n) hf hb (fun c' _ lh lc hlh => by cases hh : firstRegion c' <;> simp [hh, look] at hlh)
            (fun c' _ lh lc hlh => by cases hh : firstRegion c' <;> simp [joinAt, hh, look] at hlh) hc hs⟩
        · cases hc
      · cases hc

/-- A contract of a function with a body: what its body comes to. -/
theorem conOk_of (h : CsOk P X cx) (n : Nat) {f : FuncId} {fn : Func} {c : Code} {keep : List (Nat × LH)} {sh : List Sh} (hf : P.funcs[f]? = some fn) (he : enters fn = true) (hb : fn.body = some c)
    (hl : ∀ R, ∀ c' ∈ loopsIn c, LOkR (R := R) cx (hcN cx n) keep c') (hj : ∀ R, ∀ c' ∈ joinsIn c, JOkR (R := R) cx (hcN cx n) keep c') {cc : Con}
    (hcc : ∀ R args sto K r, cc R args sto K = some r → evBody cx (hcN cx n) keep sh fn c args sto K = some r) : ConOk P X f cc :=
  fun R args sto K r _ w _ hr hs => .inl ⟨run_enter hf he _ w, evBody_sound (hcN_ok h n) hf hb (hl R) (hj R) (hcc R args sto K r hr) hs⟩

end
end Go.Ev

/-! A contract shown over a small store of its own, brought to whatever store the caller has. -/
namespace Go.Ev

def ren (π : Nat → Nat) : D → D
  | .ptr i off => .ptr (π i) off
  | .fn f cs => .fn f (renL cs)
  | .agg cs => .agg (renL cs)
  | .tup cs => .tup (renL cs)
  | d => d
where renL : List D → List D
  | [] => []
  | c :: r => ren π c :: renL r

theorem renL_eq (π : Nat → Nat) : ∀ (l : List D), ren.renL π l = l.map (ren π)
  | [] => rfl
  | c :: r => by simp [ren.renL, renL_eq π r]

/-- Where the objects of the small store lie: those that came in, and the new ones behind the caller's. -/
def pi (is : List Nat) (N : Nat) (i : Nat) : Nat := match is[i]? with
  | some j => j
  | none => N + (i - is.length)

def mergeS (π : Nat → Nat) : List Nat → Sto → Sto → Sto
  | [], sto, [] => sto
  | [], sto, cs :: r => sto ++ (cs :: r).map (fun cs => cs.map (ren π))
  | i :: is, sto, cs :: r => mergeS π is (sto.set i (cs.map (ren π))) r
  | _ :: _, sto, [] => sto

section
variable {P : Program} {X : Cfg} {R : Type} {cx : Cx}

theorem rep_ren {φl φ : List Nat} {G : Nat → Nat} {w : World} {π : Nat → Nat} (hπ : ∀ (i b : Nat), φl[i]? = some b → φ[π i]? = some b) {d : D} {v : Value} (h : RepV X φl G w d v) : RepV X φ G w (ren π d) v := by
  induction h with
  | any v => exact .any v
  | int h => exact .int h
  | bool b => exact .bool b
  | str s h => exact .str s h
  | errNil => exact .errNil
  | errOther t v => exact .errOther t v
  | errFault hp h0 h1 h2 hc ha hu ih => exact .errFault hp h0 h1 h2 hc ha ih
  | errJoined hp h0 h1 hx hy ihx ihy => exact .errJoined hp h0 h1 ihx ihy
  | nilp => exact .nilp
  | ptr h => exact .ptr (hπ _ _ h)
  | box vs hp hc hcl hr ih => exact .box vs hp hc hcl (fun j c hj => (hr j c hj).closed (hcl j c hj))
  | nils => exact .nils
  | slNil => exact .slNil
  | slE hm hcap hmax => exact .slE hm hcap hmax
  | sl vs hlen hcap hmax hp hc hr ih => exact .sl vs hlen hcap hmax hp hc (fun i x hx j c hj => (hr i x hx j c hj).closed (cells_closed _ _ _ _ hj))
  | nilf => exact .nilf
  | fn hl hr ih =>
    unfold ren; rw [renL_eq]
    refine .fn (by simpa using hl) (fun j c hj => ?_)
    simp only [List.getElem?_map, Option.map_eq_some_iff] at hj
    obtain ⟨c0, h0, rfl⟩ := hj; exact ih j c0 h0
  | agg hl hr ih =>
    unfold ren; rw [renL_eq]
    refine .agg (by simpa using hl) (fun j c hj => ?_)
    simp only [List.getElem?_map, Option.map_eq_some_iff] at hj
    obtain ⟨c0, h0, rfl⟩ := hj; exact ih j c0 h0
  | tup hl hr ih =>
    unfold ren; rw [renL_eq]
    refine .tup (by simpa using hl) (fun j c hj => ?_)
    simp only [List.getElem?_map, Option.map_eq_some_iff] at hj
    obtain ⟨c0, h0, rfl⟩ := hj; exact ih j c0 h0

theorem rep_unren {φl φ : List Nat} {G : Nat → Nat} {w : World} {π : Nat → Nat} {m : Nat} (hπ : ∀ (i b : Nat), i < m → φ[π i]? = some b → φl[i]? = some b) {d' : D} {v : Value} (h : RepV X φ G w d' v) :
    ∀ d : D, ren π d = d' → d.under m = true → RepV X φl G w d v := by
  induction h with
  | any v => intro d e _; cases d <;> simp [ren] at e; exact .any v
  | int h => intro d e _; cases d <;> simp [ren] at e; obtain ⟨rfl, rfl⟩ := e; exact .int h
  | bool b => intro d e _; cases d <;> simp [ren] at e; subst e; exact .bool _
  | str s h => intro d e _; cases d <;> simp [ren] at e; subst e; exact .str s h
  | errNil => intro d e _; cases d <;> simp [ren] at e; subst e; exact .errNil
  | errOther t v => intro d e _; cases d <;> simp [ren] at e; subst e; exact .errOther t v
  | errFault hp h0 h1 h2 hc ha hu ih => intro d e _; cases d <;> simp [ren] at e; subst e; exact .errFault hp h0 h1 h2 hc ha (hu.closed rfl)
  | errJoined hp h0 h1 hx hy ihx ihy => intro d e _; cases d <;> simp [ren] at e; subst e; exact .errJoined hp h0 h1 (hx.closed rfl) (hy.closed rfl)
  | nilp => intro d e _; cases d <;> simp [ren] at e; exact .nilp
  | ptr h =>
    intro d e hu
    cases d <;> simp [ren] at e
    obtain ⟨rfl, rfl⟩ := e
    exact .ptr (hπ _ _ (Nat.le_of_ble_eq_true hu) h)
  | box vs hp hc hcl hr ih => intro d e _; cases d <;> simp [ren] at e; subst e; exact .box vs hp hc hcl (fun j c hj => (hr j c hj).closed (hcl j c hj))
  | nils => intro d e _; cases d <;> simp [ren] at e; exact .nils
  | slNil => intro d e _; cases d <;> simp [ren] at e; obtain ⟨rfl, rfl, e⟩ := e; cases e; exact .slNil
  | slE hm hcap hmax => intro d e _; cases d <;> simp [ren] at e; obtain ⟨rfl, rfl, e⟩ := e; cases e; exact .slE hm hcap hmax
  | sl vs hlen hcap hmax hp hc hr ih =>
    intro d e _; cases d <;> simp [ren] at e; obtain ⟨rfl, rfl, e⟩ := e; cases e
    exact .sl vs hlen hcap hmax hp hc (fun i x hx j c hj => (hr i x hx j c hj).closed (cells_closed _ _ _ _ hj))
  | nilf => intro d e _; cases d <;> simp [ren] at e; exact .nilf
  | fn hl hr ih =>
    intro d e hu; cases d <;> simp [ren] at e; obtain ⟨rfl, rfl⟩ := e
    rw [renL_eq] at hl ih
    refine .fn (by simpa using hl) (fun j c hj => ih j (ren π c) (by simp [hj]) c rfl (underL_get hu j c hj))
  | agg hl hr ih =>
    intro d e hu; cases d <;> simp [ren] at e; subst e
    rw [renL_eq] at hl ih
    refine .agg (by simpa using hl) (fun j c hj => ih j (ren π c) (by simp [hj]) c rfl (underL_get hu j c hj))
  | tup hl hr ih =>
    intro d e hu; cases d <;> simp [ren] at e; subst e
    rw [renL_eq] at hl ih
    refine .tup (by simpa using hl) (fun j c hj => ih j (ren π c) (by simp [hj]) c rfl (underL_get hu j c hj))

def rnLoc (is : List Nat) : Loc → Option Loc
  | .env t j => some (.env t j)
  | .obj i => (is.findIdx? (Nat.beq i)).map .obj
  | .cell i j => (is.findIdx? (Nat.beq i)).map (.cell · j)

def inK (is : List Nat) (κ : Nat → Option Loc) (b : Nat) : Option Loc := (κ b).bind (rnLoc is)

def backLoc (π : Nat → Nat) : Loc → Loc
  | .env t j => .env t j
  | .obj i => .obj (π i)
  | .cell i j => .cell (π i) j

def outK (is : List Nat) (π : Nat → Nat) (κ κ1 : Nat → Option Loc) (b : Nat) : Option Loc := match κ b with
  | some ℓ => match rnLoc is ℓ with
    | none => some ℓ
    | some _ => (κ1 b).map (backLoc π)
  | none => (κ1 b).map (backLoc π)

theorem find_at {is : List Nat} (hnd : is.Nodup) {l i : Nat} (h : is[l]? = some i) : is.findIdx? (Nat.beq i) = some l := by
  obtain ⟨hl, he⟩ := List.getElem?_eq_some_iff.1 h
  rw [List.findIdx?_eq_some_iff_getElem]
  refine ⟨hl, ?_, fun j hj => ?_⟩
  · rw [he]; exact Nat.beq_refl i
  · intro hb
    have e1 := Nat.eq_of_beq_eq_true hb
    exact (List.pairwise_iff_getElem.1 hnd j l (Nat.lt_trans hj hl) hl hj) (e1.symm.trans he.symm)

theorem find_some {is : List Nat} {l i : Nat} (h : is.findIdx? (Nat.beq i) = some l) : is[l]? = some i := by
  rw [List.findIdx?_eq_some_iff_getElem] at h
  obtain ⟨hl, he, _⟩ := h
  rw [List.getElem?_eq_getElem hl, Nat.eq_of_beq_eq_true he]

theorem merge_length (π : Nat → Nat) : ∀ (is : List Nat) (sto sto1 : Sto), is.length ≤ sto1.length → (mergeS π is sto sto1).length = sto.length + (sto1.length - is.length)
  | [], sto, [], _ => by simp [mergeS]
  | [], sto, cs :: r, _ => by simp [mergeS]
  | i :: is, sto, [], h => by simp at h
  | i :: is, sto, cs :: r, h => by
    simp only [mergeS]
    rw [merge_length π is _ r (by simpa using h)]
    simp

theorem merge_new (π : Nat → Nat) : ∀ (is : List Nat) (sto sto1 : Sto) (k : Nat), is.length ≤ sto1.length → (mergeS π is sto sto1)[sto.length + k]? = (sto1[is.length + k]?).map (fun cs => cs.map (ren π))
  | [], sto, [], k, _ => by simp [mergeS]
  | [], sto, cs :: r, k, _ => by simp only [mergeS]; rw [List.getElem?_append_right (by omega), List.getElem?_map]; simp
  | i :: is, sto, [], k, h => by simp at h
  | i :: is, sto, cs :: r, k, h => by
    simp only [mergeS]
    have := merge_new π is (sto.set i (cs.map (ren π))) r k (by simpa using h)
    rw [List.length_set] at this
    rw [this]
    simp [Nat.add_right_comm]

theorem merge_out (π : Nat → Nat) : ∀ (is : List Nat) (sto sto1 : Sto) (i : Nat), is.length ≤ sto1.length → i < sto.length → i ∉ is → (mergeS π is sto sto1)[i]? = sto[i]?
  | [], sto, [], i, _, _, _ => rfl
  | [], sto, cs :: r, i, _, hi, _ => by simp only [mergeS]; rw [List.getElem?_append_left hi]
  | a :: is, sto, [], i, h, _, _ => by simp at h
  | a :: is, sto, cs :: r, i, h, hi, hn => by
    simp only [mergeS]
    rw [merge_out π is _ r i (by simpa using h) (by simpa using hi) (fun h => hn (by simp [h]))]
    rw [List.getElem?_set_ne (fun e => hn (by simp [e]))]

theorem merge_in (π : Nat → Nat) : ∀ (is : List Nat) (sto sto1 : Sto) (l i : Nat), is.Nodup → is.length ≤ sto1.length → i < sto.length → is[l]? = some i → (mergeS π is sto sto1)[i]? = (sto1[l]?).map (fun cs => cs.map (ren π))
  | [], _, _, l, i, _, _, _, h => by simp at h
  | a :: is, sto, [], l, i, _, h, _, _ => by simp at h
  | a :: is, sto, cs :: r, 0, i, hnd, h, hi, hl => by
    simp at hl; subst hl
    simp only [mergeS]
    rw [merge_out π is _ r a (by simpa using h) (by simpa using hi) (List.nodup_cons.1 hnd).1]
    simp [hi]
  | a :: is, sto, cs :: r, l + 1, i, hnd, h, hi, hl => by
    simp only [mergeS]
    rw [merge_in π is _ r l i (List.nodup_cons.1 hnd).2 (by simpa using h) (by simpa using hi) (by simpa using hl)]
    simp

theorem ren_own {π : Nat → Nat} {d : D} {ty l} (h : ren π d = .sl .own ty l) : d = .sl .own ty l := by
  cases d <;> simp [ren] at h
  obtain ⟨rfl, rfl, h⟩ := h; cases h; rfl

theorem ren_agg {π : Nat → Nat} {d : D} {cs} (h : ren π d = .agg cs) : ∃ cs0, d = .agg cs0 ∧ cs = cs0.map (ren π) := by
  cases d <;> simp [ren] at h
  exact ⟨_, rfl, by rw [← h, renL_eq]⟩

theorem ren_tup {π : Nat → Nat} {d : D} {cs} (h : ren π d = .tup cs) : ∃ cs0, d = .tup cs0 ∧ cs = cs0.map (ren π) := by
  cases d <;> simp [ren] at h
  exact ⟨_, rfl, by rw [← h, renL_eq]⟩

/-- The small store behind the caller's. -/
structure Part (is : List Nat) (args largs : List D) (sto lsto : Sto) : Prop where
  nd : is.Nodup
  lt : ∀ i, i ∈ is → i < sto.length
  args : args = largs.map (ren (pi is sto.length))
  under : underAll is.length largs = true
  len : lsto.length = is.length
  obj : ∀ (l i : Nat), is[l]? = some i → ∃ cs, lsto[l]? = some cs ∧ sto[i]? = some (cs.map (ren (pi is sto.length))) ∧ underAll is.length cs = true

def partG (is : List Nat) (g : Gh) : Gh := { φ := is.map (fun i => g.φ.getD i 0), G := g.G, κ := inK is g.κ }

theorem pi_in {is : List Nat} {N l i : Nat} (h : is[l]? = some i) : pi is N l = i := by simp [pi, h]

theorem Sim.part {g : Gh} {w : World} {is : List Nat} {args largs : List D} {vals : List Value} {sto lsto : Sto} (h : Sim X g w args vals sto) (p : Part is args largs sto lsto) :
    Sim X (partG is g) w largs vals lsto := by
  have hφ : ∀ (l b : Nat), (partG is g).φ[l]? = some b → ∃ i, is[l]? = some i ∧ g.φ[i]? = some b := by
    intro l b hb
    simp only [partG, List.getElem?_map, Option.map_eq_some_iff] at hb
    obtain ⟨i, hi, he⟩ := hb
    refine ⟨i, hi, ?_⟩
    have : i < g.φ.length := h.slen ▸ p.lt i (List.mem_of_getElem? hi)
    rw [List.getElem?_eq_getElem this]
    simp [List.getD, this] at he
    rw [he]
  have hπ : ∀ (i b : Nat), i < is.length → g.φ[pi is sto.length i]? = some b → (partG is g).φ[i]? = some b := by
    intro i b hi hb
    have e : is[i]? = some is[i] := List.getElem?_eq_getElem hi
    rw [pi_in e] at hb
    simp [partG, hi, List.getD, hb]
  have hun : ∀ {d v}, RepV X g.φ g.G w (ren (pi is sto.length) d) v → d.under is.length = true → RepV X (partG is g).φ (partG is g).G w d v := fun hr hu => rep_unren hπ hr _ rfl hu
  have hκ : ∀ b ℓ ℓ', g.κ b = some ℓ → rnLoc is ℓ = some ℓ' → (partG is g).κ b = some ℓ' := by
    intro b ℓ ℓ' h1 h2; simp [partG, inK, h1, h2]
  refine ⟨?_, ?_, by simp [partG, p.len], ?_, ?_, ?_, h.gdom⟩
  · have := h.len; rw [p.args] at this; simpa using this
  · intro t d v hd hv
    exact hun (h.rep t _ v (by rw [p.args, List.getElem?_map, hd]; rfl) hv) (underAll_get p.under t d hd)
  · intro l b cs hb hcs
    obtain ⟨i, hi, hbi⟩ := hφ l b hb
    obtain ⟨cs0, h0, h1, h2⟩ := p.obj l i hi
    rw [hcs] at h0; cases h0
    obtain ⟨k, g0, cell⟩ := h.obj i b _ hbi h1
    refine ⟨hκ _ _ _ k (by simp [rnLoc, find_at p.nd hi]), g0, fun j c hj => ?_⟩
    obtain ⟨v, hv, hf, hr⟩ := cell j (ren (pi is sto.length) c) (by simp [hj])
    exact ⟨v, hv, hf, hun hr (underAll_get h2 j c hj)⟩
  · intro ℓ ty l a len cap ho
    have ho' : ∃ ℓ', rnLoc is ℓ' = some ℓ ∧ Occ g.φ w args vals sto ℓ' (.sl .own ty l) (.slice (some a) len cap) := by
      generalize hx : D.sl .own ty l = x at ho ⊢
      generalize hy : Value.slice (some a) len cap = y at ho ⊢
      cases ho with
      | leaf hd hv =>
        subst hx
        exact ⟨_, rfl, .leaf (by rw [p.args, List.getElem?_map, hd]; rfl) hv⟩
      | agg hd hv hj he =>
        subst hx
        rename_i cs _
        exact ⟨_, rfl, .agg (cs := cs.map (ren (pi is sto.length))) (by rw [p.args, List.getElem?_map, hd]; simp only [Option.map_some, ren, renL_eq]) hv (by rw [List.getElem?_map, hj]; rfl) he⟩
      | tup hd hv hj he =>
        subst hx
        rename_i cs _
        exact ⟨_, rfl, .tup (cs := cs.map (ren (pi is sto.length))) (by rw [p.args, List.getElem?_map, hd]; simp only [Option.map_some, ren, renL_eq]) hv (by rw [List.getElem?_map, hj]; rfl) he⟩
      | cell hi hb hj hv =>
        subst hx
        rename_i l0 j b cs
        obtain ⟨i, hil, hbi⟩ := hφ l0 b hb
        obtain ⟨cs0, h0, h1, h2⟩ := p.obj l0 i hil
        rw [hi] at h0; cases h0
        exact ⟨.cell i j, by simp [rnLoc, find_at p.nd hil], .cell h1 hbi (by rw [List.getElem?_map, hj]; rfl) hv⟩
    obtain ⟨ℓ', hℓ, ho'⟩ := ho'
    obtain ⟨k, gg, sp⟩ := h.own _ _ _ _ _ _ ho'
    exact ⟨hκ _ _ _ k hℓ, gg, sp⟩
  · intro b ℓ hb
    cases hk : g.κ b with
    | none => simp [partG, inK, hk] at hb
    | some ℓ' => exact h.kdom b ℓ' hk

theorem Sim.unpart {g : Gh} {w : World} {is : List Nat} {args largs : List D} {vals : List Value} {sto lsto : Sto} (h : Sim X g w args vals sto) (p : Part is args largs sto lsto)
    {g1 : Gh} {w1 : World} {d : D} {v : Value} {sto1 : Sto} (h1 : Sim X g1 w1 [d] [v] sto1) (e : Ext (partG is g) w g1 w1) :
    ∃ g2, Sim X g2 w1 [ren (pi is sto.length) d] [v] (mergeS (pi is sto.length) is sto sto1) ∧ Ext g w g2 w1 := by
  generalize hπ : pi is sto.length = π
  have hm : is.length ≤ sto1.length := by
    rw [← h1.slen]
    rcases Nat.lt_or_ge g1.φ.length is.length with hlt | hge
    · exfalso
      have : (partG is g).φ[g1.φ.length]? = some (g.φ.getD is[g1.φ.length] 0) := by simp [partG, hlt]
      have := e.φ _ _ this
      simp at this
    · exact hge
  have hN : g.φ.length = sto.length := h.slen
  let g2 : Gh := { φ := g.φ ++ g1.φ.drop is.length, G := g1.G, κ := outK is π g.κ g1.κ }
  have hin : ∀ (l i b : Nat), is[l]? = some i → g1.φ[l]? = some b → g.φ[i]? = some b := by
    intro l i b hi hb
    have hlt : i < g.φ.length := hN ▸ p.lt i (List.mem_of_getElem? hi)
    have h0 : (partG is g).φ[l]? = some g.φ[i] := by simp [partG, hi, List.getD, hlt]
    rw [e.φ _ _ h0] at hb; cases hb
    exact List.getElem?_eq_getElem hlt
  have hφ2 : ∀ (i b : Nat), g1.φ[i]? = some b → g2.φ[π i]? = some b := by
    intro i b hb
    cases hi : is[i]? with
    | some j =>
      have hj := hin i j b hi hb
      rw [← hπ, pi_in hi]
      show (g.φ ++ _)[j]? = _
      rw [List.getElem?_append_left (List.getElem?_eq_some_iff.1 hj).1]; exact hj
    | none =>
      have hge : is.length ≤ i := by simpa using hi
      rw [← hπ]
      show (g.φ ++ _)[pi is sto.length i]? = _
      simp only [pi, hi]
      rw [List.getElem?_append_right (by omega), hN, Nat.add_sub_cancel_left, List.getElem?_drop, Nat.add_sub_cancel' hge]; exact hb
  have hκ : ∀ b ℓ, g1.κ b = some ℓ → g2.κ b = some (backLoc π ℓ) := by
    intro b ℓ hb
    show outK is π g.κ g1.κ b = _
    unfold outK
    split
    · rename_i ℓ0 hk
      split
      · rename_i hn
        have := e.kdom b (h.kdom b _ hk) (by simp [partG, inK, hk, hn])
        rw [this] at hb; cases hb
      · simp [hb]
    · simp [hb]
  have hprot : ∀ b ℓ, g.κ b = some ℓ → rnLoc is ℓ = none → g2.κ b = some ℓ ∧ g1.G b = g.G b ∧ w1.heap[b]? = w.heap[b]? := by
    intro b ℓ hk hn
    have hb := h.kdom b _ hk
    have h0 : (partG is g).κ b = none := by simp [partG, inK, hk, hn]
    exact ⟨by simp [g2, outK, hk, hn], e.gsame b hb h0, e.blk b hb h0⟩
  have hrn : ∀ i, i ∉ is → is.findIdx? (Nat.beq i) = none := by
    intro i hi
    cases hf : is.findIdx? (Nat.beq i) with
    | none => rfl
    | some l => exact absurd (List.mem_of_getElem? (find_some hf)) hi
  have hrep : ∀ {d v}, RepV X g1.φ g1.G w1 d v → RepV X g2.φ g2.G w1 (ren π d) v := fun hr => rep_ren hφ2 hr
  -- where a row of the merged store comes from
  have hsto : ∀ (i b : Nat) cs, (mergeS π is sto sto1)[i]? = some cs → g2.φ[i]? = some b →
      (∃ l cs1, sto1[l]? = some cs1 ∧ cs = cs1.map (ren π) ∧ π l = i ∧ g1.φ[l]? = some b) ∨ (i ∉ is ∧ sto[i]? = some cs ∧ g.φ[i]? = some b) := by
    intro i b cs hi hb
    rcases Nat.lt_or_ge i sto.length with hlt | hge
    · have hb' : g.φ[i]? = some b := by
        have : (g.φ ++ g1.φ.drop is.length)[i]? = some b := hb
        rwa [List.getElem?_append_left (by omega)] at this
      by_cases hmem : i ∈ is
      · obtain ⟨l, hl⟩ := List.mem_iff_getElem?.1 hmem
        rw [merge_in π is sto sto1 l i p.nd hm hlt hl] at hi
        cases hs : sto1[l]? with
        | none => rw [hs] at hi; cases hi
        | some cs1 =>
          rw [hs] at hi; cases hi
          refine .inl ⟨l, cs1, hs, rfl, by rw [← hπ]; exact pi_in hl, ?_⟩
          have hll : l < g1.φ.length := by rw [h1.slen]; exact (List.getElem?_eq_some_iff.1 hs).1
          have h0 := List.getElem?_eq_getElem hll
          rw [hin l i _ hl h0] at hb'; cases hb'; exact h0
      · rw [merge_out π is sto sto1 i hm hlt hmem] at hi
        exact .inr ⟨hmem, hi, hb'⟩
    · obtain ⟨k, rfl⟩ := Nat.exists_eq_add_of_le hge
      rw [merge_new π is sto sto1 k hm] at hi
      cases hs : sto1[is.length + k]? with
      | none => rw [hs] at hi; cases hi
      | some cs1 =>
        rw [hs] at hi; cases hi
        refine .inl ⟨is.length + k, cs1, hs, rfl, by rw [← hπ]; simp [pi], ?_⟩
        have : (g.φ ++ g1.φ.drop is.length)[sto.length + k]? = some b := hb
        rw [List.getElem?_append_right (by omega), hN, Nat.add_sub_cancel_left, List.getElem?_drop] at this
        exact this
  refine ⟨g2, ⟨rfl, ?_, ?_, ?_, ?_, ?_, h1.gdom⟩, ⟨e.size, e.os, e.tape, e.output, fun b hb hn => e.blk b hb (by simp [partG, inK, hn]), e.cell, e.gmono, fun b hb hn => e.gsame b hb (by simp [partG, inK, hn]), ?_, ?_⟩⟩
  · intro t d' v' hd hv
    cases t with
    | succ t => simp at hd
    | zero => cases hd; cases hv; exact hrep (h1.rep 0 d v rfl rfl)
  · rw [merge_length π is sto sto1 hm, ← h1.slen]
    simp [g2, hN]
  · intro i b cs hb hi
    rcases hsto i b cs hi hb with ⟨l, cs1, hs1, rfl, hl, hb1⟩ | ⟨hni, hs0, hb0⟩
    · obtain ⟨k, g0, cell⟩ := h1.obj l b cs1 hb1 hs1
      refine ⟨by rw [hκ _ _ k, backLoc, hl], g0, fun j c hj => ?_⟩
      simp only [List.getElem?_map, Option.map_eq_some_iff] at hj
      obtain ⟨c0, h0, rfl⟩ := hj
      obtain ⟨v, hv, hf, hr⟩ := cell j c0 h0
      exact ⟨v, hv, hf, hrep hr⟩
    · obtain ⟨k, g0, cell⟩ := h.obj i b cs hb0 hs0
      obtain ⟨k2, hG, hblk⟩ := hprot b _ k (by simp [rnLoc, hrn i hni])
      refine ⟨k2, hG.trans g0, fun j c hj => ?_⟩
      obtain ⟨v, hv, hf, hr⟩ := cell j c hj
      refine ⟨v, by rw [World.cell?_of_block (w := w) (a := ⟨b, j, none⟩) hblk]; exact hv, by rw [World.frozen?_of_block (w := w) (a := ⟨b, j, none⟩) hblk]; exact hf, ?_⟩
      exact hr.mono (fun i b h => by
        show (g.φ ++ _)[i]? = _
        rw [List.getElem?_append_left (List.getElem?_eq_some_iff.1 h).1]; exact h) e.gmono e.cell
  · intro ℓ ty l a len cap ho
    generalize hx : D.sl .own ty l = x at ho
    generalize hy : Value.slice (some a) len cap = y at ho
    have fin : ∀ ℓ0, Occ g1.φ w1 [d] [v] sto1 ℓ0 (.sl .own ty l) (.slice (some a) len cap) → backLoc π ℓ0 = ℓ → Own1 g2.κ g2.G w1 ℓ ty.size l.length a cap := by
      intro ℓ0 ho0 hb
      obtain ⟨k, gg, sp⟩ := h1.own _ _ _ _ _ _ ho0
      exact ⟨by rw [hκ _ _ k, hb], gg, sp⟩
    cases ho with
    | leaf hd hv =>
      rename_i t
      cases t with
      | succ t => simp at hd
      | zero =>
        simp at hd hv; subst hx; subst hy
        have := ren_own hd
        subst this; subst hv
        exact fin _ (.leaf rfl rfl) rfl
    | agg hd hv hj he =>
      rename_i t _ _ _
      cases t with
      | succ t => simp at hd
      | zero =>
        simp at hd hv; subst hx; subst hy; subst hv
        obtain ⟨cs0, rfl, rfl⟩ := ren_agg hd
        simp only [List.getElem?_map, Option.map_eq_some_iff] at hj
        obtain ⟨c0, h0, hj⟩ := hj
        have := ren_own hj
        subst this
        exact fin _ (.agg rfl rfl h0 he) rfl
    | tup hd hv hj he =>
      rename_i t _ _ _
      cases t with
      | succ t => simp at hd
      | zero =>
        simp at hd hv; subst hx; subst hy; subst hv
        obtain ⟨cs0, rfl, rfl⟩ := ren_tup hd
        simp only [List.getElem?_map, Option.map_eq_some_iff] at hj
        obtain ⟨c0, h0, hj⟩ := hj
        have := ren_own hj
        subst this
        exact fin _ (.tup rfl rfl h0 he) rfl
    | cell hi hb hj hv =>
      rename_i i j b cs
      subst hx; subst hy
      rcases hsto i b cs hi hb with ⟨l1, cs1, hs1, rfl, hl, hb1⟩ | ⟨hni, hs0, hb0⟩
      · simp only [List.getElem?_map, Option.map_eq_some_iff] at hj
        obtain ⟨c0, h0, hj⟩ := hj
        have := ren_own hj
        subst this
        exact fin (.cell l1 j) (.cell hs1 hb1 h0 hv) (by simp [backLoc, hl])
      · have kb := (h.obj i b cs hb0 hs0).k
        obtain ⟨_, _, hblk⟩ := hprot b _ kb (by simp [rnLoc, hrn i hni])
        have hv0 : w.cell? ⟨b, j, none⟩ = some (.slice (some a) len cap) := by
          rw [World.cell?_of_block (w := w) (w' := w1) (a := ⟨b, j, none⟩) hblk] at hv; exact hv
        obtain ⟨k, gg, sp⟩ := h.own _ _ _ _ _ _ (.cell hs0 hb0 hj hv0)
        obtain ⟨k2, hG, hblk2⟩ := hprot _ _ k (by simp [rnLoc, hrn i hni])
        refine ⟨k2, hG.trans gg, fun jj q1 q2 => ?_⟩
        obtain ⟨⟨u, hu⟩, hf⟩ := sp jj q1 q2
        exact ⟨⟨u, by rw [World.cell?_of_block (w := w) (a := ⟨a.block, a.off + jj, none⟩) hblk2]; exact hu⟩, by rw [World.frozen?_of_block (w := w) (a := ⟨a.block, a.off + jj, none⟩) hblk2]; exact hf⟩
  · intro b ℓ hb
    have hb' : outK is π g.κ g1.κ b = some ℓ := hb
    unfold outK at hb'
    split at hb'
    · rename_i ℓ0 hk
      exact Nat.lt_of_lt_of_le (h.kdom b _ hk) e.size
    · cases hk : g1.κ b with
      | none => rw [hk] at hb'; cases hb'
      | some ℓ' => exact h1.kdom b ℓ' hk
  · intro b hb hn
    have := e.kdom b hb (by simp [partG, inK, hn])
    show outK is π g.κ g1.κ b = none
    simp [outK, hn, this]
  · intro i b hb
    show (g.φ ++ _)[i]? = _
    rw [List.getElem?_append_left (List.getElem?_eq_some_iff.1 hb).1]; exact hb

theorem CallPost.mono_call {f : FuncId} {vals : Array Value} {w : World} {Q Q' : Ending → World → Prop} (h : CallsOp P f vals w Q) (hq : ∀ e w', Q e w' → Q' e w') : CallsOp P f vals w Q' := by
  rcases h with ⟨h1, h2⟩ | ⟨v, w', h1, h2⟩
  · exact .inl ⟨h1, h2.mono hq⟩
  · exact .inr ⟨v, w', h1, hq _ _ h2⟩

/-- A contract over the small store, used over the caller's. -/
theorem lift_sound {f : FuncId} {c : Con} (hc : ConOk P X f c) {is : List Nat} {args largs : List D} {sto lsto : Sto} (p : Part is args largs sto lsto) {K : D → Sto → Option R} {r : R} {g : Gh} {w : World} {vals : List Value}
    (h : c R largs lsto (fun d sto1 => K (ren (pi is sto.length) d) (mergeS (pi is sto.length) is sto sto1)) = some r) (hs : Sim X g w args vals sto) : CallsOp P f vals.toArray w (CallPost X g w K r) := by
  refine CallPost.mono_call (hc R largs lsto _ r _ w vals h (hs.part p)) (fun e w' hp => ?_)
  obtain ⟨v, d, sto', g', he, hk, h1, e1⟩ := hp
  obtain ⟨g2, h2, e2⟩ := hs.unpart p h1 e1
  exact ⟨v, _, _, g2, he, hk, h2, e2⟩

end
end Go.Ev

/-! Codes of states and of contracts: a state read as a tuple of plain values, and back. -/
namespace Go.Ev

/-- Codes of leaves. -/
inductive LC where
  | lit (d : D) | int (k : IntKind) | bool | str | err | sl (m : Md) (t : Ty)

/-- Codes of what stands in a slot. -/
inductive SC where
  | leaf (c : LC) | agg (cs : List LC) | tup (cs : List LC) | box (cs : List LC) | fn (f : FuncId) (cs : List LC)

@[reducible] def denL : List LC → Type → Type
  | [], T => T
  | .lit _ :: r, T => denL r T
  | .int _ :: r, T => Int × denL r T
  | .bool :: r, T => Bool × denL r T
  | .str :: r, T => List UInt8 × denL r T
  | .err :: r, T => Err × denL r T
  | .sl _ t :: r, T => List t.den × denL r T

def SC.ls : SC → List LC
  | .leaf c => [c]
  | .agg cs | .tup cs | .box cs | .fn _ cs => cs

@[reducible] def denE : List SC → Type → Type
  | [], T => T
  | .leaf c :: r, T => denL [c] (denE r T)
  | .agg cs :: r, T => denL cs (denE r T)
  | .tup cs :: r, T => denL cs (denE r T)
  | .box cs :: r, T => denL cs (denE r T)
  | .fn _ cs :: r, T => denL cs (denE r T)

@[reducible] def denR : List (List LC) → Type → Type
  | [], T => T
  | cs :: r, T => denL cs (denR r T)

def mkL : (cs : List LC) → {T : Type} → denL cs T → List D × T
  | [], _, x => ([], x)
  | .lit d :: r, _, x => let p := mkL r x; (d :: p.1, p.2)
  | .int k :: r, _, x => let p := mkL r x.2; (.int k x.1 :: p.1, p.2)
  | .bool :: r, _, x => let p := mkL r x.2; (.bool x.1 :: p.1, p.2)
  | .str :: r, _, x => let p := mkL r x.2; (.str x.1 :: p.1, p.2)
  | .err :: r, _, x => let p := mkL r x.2; (.err x.1 :: p.1, p.2)
  | .sl m t :: r, _, x => let p := mkL r x.2; (.sl m t x.1 :: p.1, p.2)

def mkE : (cs : List SC) → {T : Type} → denE cs T → List D × T
  | [], _, x => ([], x)
  | .leaf c :: r, _, x => let p := mkL [c] x; let q := mkE r p.2; (p.1.headD .any :: q.1, q.2)
  | .agg cs :: r, _, x => let p := mkL cs x; let q := mkE r p.2; (.agg p.1 :: q.1, q.2)
  | .tup cs :: r, _, x => let p := mkL cs x; let q := mkE r p.2; (.tup p.1 :: q.1, q.2)
  | .box cs :: r, _, x => let p := mkL cs x; let q := mkE r p.2; (.box p.1 :: q.1, q.2)
  | .fn f cs :: r, _, x => let p := mkL cs x; let q := mkE r p.2; (.fn f p.1 :: q.1, q.2)

def mkR : (cs : List (List LC)) → {T : Type} → denR cs T → List (List D) × T
  | [], _, x => ([], x)
  | cs :: r, _, x => let p := mkL cs x; let q := mkR r p.2; (p.1 :: q.1, q.2)

mutual
def sameD : D → D → Bool
  | .any, .any | .nilp, .nilp | .nils, .nils | .nilf, .nilf => true
  | .int k n, .int k' n' => match decEq k k', decEq n n' with
    | .isTrue _, .isTrue _ => true
    | _, _ => false
  | .bool b, .bool b' => b == b'
  | .ptr i o, .ptr i' o' => Nat.beq i i' && Nat.beq o o'
  | .fn f cs, .fn f' cs' => Nat.beq f f' && sameL cs cs'
  | .agg cs, .agg cs' | .tup cs, .tup cs' | .box cs, .box cs' => sameL cs cs'
  | _, _ => false
def sameL : List D → List D → Bool
  | [], [] => true
  | a :: r, b :: s => sameD a b && sameL r s
  | _, _ => false
end

def decL : (cs : List LC) → {T : Type} → List D → Option T → Option (denL cs T)
  | [], _, [], k => k
  | .lit d :: r, _, x :: ds, k => match sameD d x with
    | true => decL r ds k
    | false => none
  | .int k :: r, _, .int k' n :: ds, t => match decEq k k', decL r ds t with
    | .isTrue _, some x => some (n, x)
    | _, _ => none
  | .bool :: r, _, .bool b :: ds, t => match decL r ds t with
    | some x => some (b, x)
    | none => none
  | .str :: r, _, .str b :: ds, t => match decL r ds t with
    | some x => some (b, x)
    | none => none
  | .err :: r, _, .err b :: ds, t => match decL r ds t with
    | some x => some (b, x)
    | none => none
  | .sl m t :: r, _, .sl m' t' l :: ds, k => match decEq m m', castL t' t l, decL r ds k with
    | .isTrue _, some l, some x => some (l, x)
    | _, _, _ => none
  | _, _, _, _ => none

def decE : (cs : List SC) → {T : Type} → List D → Option T → Option (denE cs T)
  | [], _, [], k => k
  | .leaf c :: r, _, d :: ds, k => decL [c] [d] (decE r ds k)
  | .agg cs :: r, _, .agg xs :: ds, k => decL cs xs (decE r ds k)
  | .tup cs :: r, _, .tup xs :: ds, k => decL cs xs (decE r ds k)
  | .box cs :: r, _, .box xs :: ds, k => decL cs xs (decE r ds k)
  | .fn f cs :: r, _, .fn f' xs :: ds, k => match Nat.beq f f' with
    | true => decL cs xs (decE r ds k)
    | false => none
  | _, _, _, _ => none

def decR : (cs : List (List LC)) → {T : Type} → List (List D) → Option T → Option (denR cs T)
  | [], _, [], k => k
  | cs :: r, _, xs :: ds, k => decL cs xs (decR r ds k)
  | _, _, _, _ => none

mutual
theorem sameD_eq : ∀ {a b : D}, sameD a b = true → a = b
  | .any, b, h => by cases b <;> simp [sameD] at h ⊢
  | .nilp, b, h => by cases b <;> simp [sameD] at h ⊢
  | .nils, b, h => by cases b <;> simp [sameD] at h ⊢
  | .nilf, b, h => by cases b <;> simp [sameD] at h ⊢
  | .int k n, b, h => by
    cases b <;> simp only [sameD] at h <;> try cases h
    rename_i k' n'
    split at h
    · rename_i h1 h2 _ _; rw [h1, h2]
    · cases h
  | .bool x, b, h => by cases b <;> simp [sameD] at h ⊢; exact h
  | .ptr i o, b, h => by
    cases b <;> simp only [sameD] at h <;> try cases h
    simp only [Bool.and_eq_true] at h
    rw [Nat.eq_of_beq_eq_true h.1, Nat.eq_of_beq_eq_true h.2]
  | .fn f cs, b, h => by
    cases b <;> simp only [sameD] at h <;> try cases h
    simp only [Bool.and_eq_true] at h
    rw [Nat.eq_of_beq_eq_true h.1, sameL_eq h.2]
  | .agg cs, b, h => by
    cases b <;> simp only [sameD] at h <;> try cases h
    rw [sameL_eq h]
  | .tup cs, b, h => by
    cases b <;> simp only [sameD] at h <;> try cases h
    rw [sameL_eq h]
  | .box cs, b, h => by
    cases b <;> simp only [sameD] at h <;> try cases h
    rw [sameL_eq h]
  | .str _, b, h => by cases b <;> simp [sameD] at h
  | .err _, b, h => by cases b <;> simp [sameD] at h
  | .sl _ _ _, b, h => by cases b <;> simp [sameD] at h
theorem sameL_eq : ∀ {a b : List D}, sameL a b = true → a = b
  | [], b, h => by cases b <;> simp [sameL] at h ⊢
  | x :: r, b, h => by
    cases b <;> simp only [sameL] at h <;> try cases h
    simp only [Bool.and_eq_true] at h
    rw [sameD_eq h.1, sameL_eq h.2]
end

theorem decL_mk : ∀ (cs : List LC) {T : Type} (ds : List D) (t : Option T) (x : denL cs T), decL cs ds t = some x → ds = (mkL cs x).1 ∧ t = some (mkL cs x).2
  | [], _, ds, t, x, h => by
    cases ds <;> simp only [decL] at h
    · exact ⟨rfl, h⟩
    · cases h
  | .lit d :: r, _, ds, t, x, h => by
    cases ds <;> simp only [decL] at h
    · cases h
    · split at h
      · rename_i hs
        obtain ⟨h1, h2⟩ := decL_mk r _ _ _ h
        rw [← sameD_eq hs]
        exact ⟨by simp only [mkL]; rw [← h1], h2⟩
      · cases h
  | .int k :: r, _, ds, t, x, h => by
    rcases ds with _ | ⟨d, ds⟩
    · cases h
    · cases d <;> simp only [decL] at h <;> try cases h
      split at h
      · rename_i he _ _ hx
        cases h
        subst he
        obtain ⟨h1, h2⟩ := decL_mk r _ _ _ hx
        exact ⟨by simp only [mkL]; rw [← h1], h2⟩
      · cases h
  | .bool :: r, _, ds, t, x, h => by
    rcases ds with _ | ⟨d, ds⟩
    · cases h
    · cases d <;> simp only [decL] at h <;> try cases h
      split at h
      · rename_i hx
        cases h
        obtain ⟨h1, h2⟩ := decL_mk r _ _ _ hx
        exact ⟨by simp only [mkL]; rw [← h1], h2⟩
      · cases h
  | .str :: r, _, ds, t, x, h => by
    rcases ds with _ | ⟨d, ds⟩
    · cases h
    · cases d <;> simp only [decL] at h <;> try cases h
      split at h
      · rename_i hx
        cases h
        obtain ⟨h1, h2⟩ := decL_mk r _ _ _ hx
        exact ⟨by simp only [mkL]; rw [← h1], h2⟩
      · cases h
  | .err :: r, _, ds, t, x, h => by
    rcases ds with _ | ⟨d, ds⟩
    · cases h
    · cases d <;> simp only [decL] at h <;> try cases h
      split at h
      · rename_i hx
        cases h
        obtain ⟨h1, h2⟩ := decL_mk r _ _ _ hx
        exact ⟨by simp only [mkL]; rw [← h1], h2⟩
      · cases h
  | .sl m ty :: r, _, ds, t, x, h => by
    rcases ds with _ | ⟨d, ds⟩
    · cases h
    · cases d <;> simp only [decL] at h <;> try cases h
      split at h
      · rename_i he l _ _ hl hx
        cases h
        subst he
        obtain ⟨e, hl⟩ := castL_some hl
        subst e
        subst hl
        obtain ⟨h1, h2⟩ := decL_mk r _ _ _ hx
        exact ⟨by simp only [mkL]; rw [← h1], h2⟩
      · cases h

theorem decE_mk : ∀ (cs : List SC) {T : Type} (ds : List D) (t : Option T) (x : denE cs T), decE cs ds t = some x → ds = (mkE cs x).1 ∧ t = some (mkE cs x).2
  | [], _, ds, t, x, h => by
    cases ds <;> simp only [decE] at h
    · exact ⟨rfl, h⟩
    · cases h
  | .leaf c :: r, _, ds, t, x, h => by
    rcases ds with _ | ⟨d, ds⟩
    · cases h
    · simp only [decE] at h
      obtain ⟨h1, h2⟩ := decL_mk [c] _ _ _ h
      obtain ⟨h3, h4⟩ := decE_mk r _ _ _ h2
      exact ⟨by simp only [mkE]; rw [← h3, ← h1]; rfl, h4⟩
  | .agg cs :: r, _, ds, t, x, h => by
    rcases ds with _ | ⟨d, ds⟩
    · cases h
    · cases d <;> simp only [decE] at h <;> try cases h
      obtain ⟨h1, h2⟩ := decL_mk cs _ _ _ h
      obtain ⟨h3, h4⟩ := decE_mk r _ _ _ h2
      exact ⟨by simp only [mkE]; rw [← h3, ← h1], h4⟩
  | .tup cs :: r, _, ds, t, x, h => by
    rcases ds with _ | ⟨d, ds⟩
    · cases h
    · cases d <;> simp only [decE] at h <;> try cases h
      obtain ⟨h1, h2⟩ := decL_mk cs _ _ _ h
      obtain ⟨h3, h4⟩ := decE_mk r _ _ _ h2
      exact ⟨by simp only [mkE]; rw [← h3, ← h1], h4⟩
  | .box cs :: r, _, ds, t, x, h => by
    rcases ds with _ | ⟨d, ds⟩
    · cases h
    · cases d <;> simp only [decE] at h <;> try cases h
      obtain ⟨h1, h2⟩ := decL_mk cs _ _ _ h
      obtain ⟨h3, h4⟩ := decE_mk r _ _ _ h2
      exact ⟨by simp only [mkE]; rw [← h3, ← h1], h4⟩
  | .fn f cs :: r, _, ds, t, x, h => by
    rcases ds with _ | ⟨d, ds⟩
    · cases h
    · cases d <;> simp only [decE] at h <;> try cases h
      split at h
      · rename_i hf
        have := Nat.eq_of_beq_eq_true hf
        subst this
        obtain ⟨h1, h2⟩ := decL_mk cs _ _ _ h
        obtain ⟨h3, h4⟩ := decE_mk r _ _ _ h2
        exact ⟨by simp only [mkE]; rw [← h3, ← h1], h4⟩
      · cases h

theorem decR_mk : ∀ (cs : List (List LC)) {T : Type} (ds : List (List D)) (t : Option T) (x : denR cs T), decR cs ds t = some x → ds = (mkR cs x).1 ∧ t = some (mkR cs x).2
  | [], _, ds, t, x, h => by
    cases ds <;> simp only [decR] at h
    · exact ⟨rfl, h⟩
    · cases h
  | c :: r, _, ds, t, x, h => by
    rcases ds with _ | ⟨d, ds⟩
    · cases h
    · simp only [decR] at h
      obtain ⟨h1, h2⟩ := decL_mk c _ _ _ h
      obtain ⟨h3, h4⟩ := decR_mk r _ _ _ h2
      exact ⟨by simp only [mkR]; rw [← h3, ← h1], h4⟩

/-- A state's code. -/
structure SCode where
  env : List SC
  sto : List (List LC)

@[reducible] def SCode.den (c : SCode) : Type := denE c.env (denR c.sto Unit)

def mkSt (c : SCode) (x : c.den) : St := let p := mkE c.env x; { env := p.1, sto := (mkR c.sto p.2).1 }

def decSt (c : SCode) (st : St) : Option c.den := decE c.env st.env (decR c.sto st.sto (some ()))

theorem decSt_mk {c : SCode} {st : St} {x : c.den} (h : decSt c st = some x) : st = mkSt c x := by
  obtain ⟨h1, h2⟩ := decE_mk _ _ _ _ h
  obtain ⟨h3, _⟩ := decR_mk _ _ _ _ h2
  obtain ⟨env, sto⟩ := st
  simp only at h1 h3
  simp only [mkSt, ← h1, ← h3]

theorem mkR_length : ∀ (cs : List (List LC)) {T : Type} (x : denR cs T), (mkR cs x).1.length = cs.length
  | [], _, _ => rfl
  | c :: r, _, x => by simp [mkR, mkR_length r]

/-- A loop's contract, over the plain values of the state at its head. -/
def lconOf (c : SCode) (F : (R : Type) → (Exit → St → Option R) → c.den → Option R) : LCon := fun R st k => match decSt c st with
  | some x => F R k x
  | none => none

section
variable {R : Type} {cx : Cx}

theorem lok_iter {hc : FuncId → List D → Sto → (D → Sto → Option R) → Option R} {keep : List (Nat × LH)} {body : Code} {lh : LH} (c : SCode) (L : (R : Type) → Nat → (Exit → St → Option R) → c.den → Option R) (fuel : c.den → Nat)
    (B : (c.den → Option R) → (Exit → St → Option R) → c.den → Option R)
    (hkeep : (firstRegion body).bind (look keep) = some lh) (hcon : lh.con = some (lconOf c fun R k x => L R (fuel x) k x))
    (hstep : ∀ (recS : St → Option R) (k : Exit → St → Option R) (x : c.den), evCode cx hc keep body (mkSt c x) (fun e st' => match e with | .normal => recS (norm lh c.sto.length st') | e => k e (normO lh c.sto.length st')) = B (fun y => recS (mkSt c y)) k x)
    (h0 : ∀ k x, L R 0 k x = none) (hs : ∀ n k x, L R (n + 1) k x = B (L R n k) k x) : LOkR cx hc keep body := by
  intro lh' lc h1 h2 st k r h
  rw [hkeep] at h1; cases h1
  rw [hcon] at h2; cases h2
  unfold lconOf at h
  split at h
  · rename_i x hx
    have hmk := decSt_mk hx
    have hlen : st.sto.length = c.sto.length := by
      have := norm_sto lh st.sto.length st rfl
      rw [hmk] at this
      rw [← this]
      exact mkR_length _ _
    rw [hmk, hlen]
    refine ⟨fuel x, ?_⟩
    have key : ∀ n x, loopN (fun st k => evCode cx hc keep body st k) (norm lh c.sto.length) (fun e s => k e (normO lh c.sto.length s)) n (mkSt c x) = L R n k x := by
      intro n
      induction n with
      | zero => intro x; rw [h0]; rfl
      | succ n ih =>
        intro x
        rw [hs]
        unfold loopN
        have := hstep (loopN (fun st k => evCode cx hc keep body st k) (norm lh c.sto.length) (fun e s => k e (normO lh c.sto.length s)) n) k x
        have e : (fun y => loopN (fun st k => evCode cx hc keep body st k) (norm lh c.sto.length) (fun e s => k e (normO lh c.sto.length s)) n (mkSt c y)) = L R n k := funext ih
        rw [e] at this
        rw [← this]
        congr 1
    rw [key]; exact h
  · cases h

theorem jok_of {hc : FuncId → List D → Sto → (D → Sto → Option R) → Option R} {keep : List (Nat × LH)} {b : Code} {lh : LH} (c : SCode) (F : (R : Type) → (Exit → St → Option R) → c.den → Option R)
    (hkeep : joinAt keep b = some lh) (hcon : lh.con = some (lconOf c F))
    (hstep : ∀ (n : Nat) (k : Exit → St → Option R) (x : c.den), evCode cx hc keep b (mkSt c x) (fun e st' => k e (normO lh n st')) = F R k x) : JOkR cx hc keep b := by
  intro lh' lc h1 h2 n st k r h
  rw [hkeep] at h1; cases h1
  rw [hcon] at h2; cases h2
  unfold lconOf at h
  split at h
  · rename_i x hx
    rw [decSt_mk hx, hstep]
    exact h
  · cases h

end
end Go.Ev

/-! Contracts of functions over plain values. -/
namespace Go.Ev

theorem mkL_inj : ∀ (cs : List LC) {T : Type} {x y : denL cs T}, (mkL cs x).1 = (mkL cs y).1 → (mkL cs x).2 = (mkL cs y).2 → x = y
  | [], _, _, _, _, h => h
  | .lit d :: r, _, x, y, h1, h2 => mkL_inj r (List.cons.inj h1).2 h2
  | .int k :: r, _, x, y, h1, h2 => Prod.ext (D.int.inj (List.cons.inj h1).1).2 (mkL_inj r (List.cons.inj h1).2 h2)
  | .bool :: r, _, x, y, h1, h2 => Prod.ext (D.bool.inj (List.cons.inj h1).1) (mkL_inj r (List.cons.inj h1).2 h2)
  | .str :: r, _, x, y, h1, h2 => Prod.ext (D.str.inj (List.cons.inj h1).1) (mkL_inj r (List.cons.inj h1).2 h2)
  | .err :: r, _, x, y, h1, h2 => Prod.ext (D.err.inj (List.cons.inj h1).1) (mkL_inj r (List.cons.inj h1).2 h2)
  | .sl m t :: r, _, x, y, h1, h2 => Prod.ext (eq_of_heq (D.sl.inj (List.cons.inj h1).1).2.2) (mkL_inj r (List.cons.inj h1).2 h2)

theorem mkL_length : ∀ (cs : List LC) {T : Type} (x : denL cs T), (mkL cs x).1.length = cs.length
  | [], _, _ => rfl
  | .lit _ :: r, _, x => by simp only [mkL, List.length_cons, mkL_length r x]
  | .int _ :: r, _, x | .bool :: r, _, x | .str :: r, _, x | .err :: r, _, x | .sl _ _ :: r, _, x => by simp only [mkL, List.length_cons, mkL_length r x.2]

theorem mkE_inj : ∀ (cs : List SC) {T : Type} {x y : denE cs T}, (mkE cs x).1 = (mkE cs y).1 → (mkE cs x).2 = (mkE cs y).2 → x = y
  | [], _, _, _, _, h => h
  | .leaf c :: r, _, x, y, h1, h2 => by
    refine mkL_inj [c] ?_ (mkE_inj r (List.cons.inj h1).2 h2)
    have h := (List.cons.inj h1).1
    have lx := mkL_length [c] x
    have ly := mkL_length [c] y
    generalize (mkL [c] x).1 = a at h lx
    generalize (mkL [c] y).1 = b at h ly
    match a, b, lx, ly with
    | [p], [q], _, _ => simp only [List.headD_cons] at h; rw [h]
  | .agg cs :: r, _, x, y, h1, h2 => mkL_inj cs (D.agg.inj (List.cons.inj h1).1) (mkE_inj r (List.cons.inj h1).2 h2)
  | .tup cs :: r, _, x, y, h1, h2 => mkL_inj cs (D.tup.inj (List.cons.inj h1).1) (mkE_inj r (List.cons.inj h1).2 h2)
  | .box cs :: r, _, x, y, h1, h2 => mkL_inj cs (D.box.inj (List.cons.inj h1).1) (mkE_inj r (List.cons.inj h1).2 h2)
  | .fn f cs :: r, _, x, y, h1, h2 => mkL_inj cs (D.fn.inj (List.cons.inj h1).1).2 (mkE_inj r (List.cons.inj h1).2 h2)

theorem mkR_inj : ∀ (cs : List (List LC)) {T : Type} {x y : denR cs T}, (mkR cs x).1 = (mkR cs y).1 → (mkR cs x).2 = (mkR cs y).2 → x = y
  | [], _, _, _, _, h => h
  | c :: r, _, x, y, h1, h2 => mkL_inj c (List.cons.inj h1).1 (mkR_inj r (List.cons.inj h1).2 h2)

theorem mkSt_inj {c : SCode} {x y : c.den} (h : mkSt c x = mkSt c y) : x = y := by
  unfold mkSt at h
  simp only [St.mk.injEq] at h
  exact mkE_inj c.env h.1 (mkR_inj c.sto h.2 rfl)

/-! ### The caller's values as the contract sees them -/

def posOf (is : List Nat) (i : Nat) : Option Nat := is.findIdx? (Nat.beq i)

mutual
def unren (is : List Nat) : D → Option D
  | .ptr i off => match posOf is i with
    | some l => some (.ptr l off)
    | none => none
  | .fn f cs => match unrenL is cs with
    | some cs => some (.fn f cs)
    | none => none
  | .agg cs => match unrenL is cs with
    | some cs => some (.agg cs)
    | none => none
  | .tup cs => match unrenL is cs with
    | some cs => some (.tup cs)
    | none => none
  | d => some d
def unrenL (is : List Nat) : List D → Option (List D)
  | [] => some []
  | c :: r => match unren is c, unrenL is r with
    | some c, some r => some (c :: r)
    | _, _ => none
end

mutual
theorem unren_spec {is : List Nat} {N : Nat} : ∀ {d d' : D}, unren is d = some d' → d = ren (pi is N) d' ∧ d'.under is.length = true
  | .ptr i off, d', h => by
    simp only [unren] at h
    split at h
    · rename_i l hl
      cases h
      have hi := find_some hl
      exact ⟨by simp only [ren, pi_in hi], by have := (List.getElem?_eq_some_iff.1 hi).1; exact Nat.ble_eq_true_of_le this⟩
    · cases h
  | .fn f cs, d', h => by
    simp only [unren] at h
    split at h
    · rename_i l hl
      cases h
      obtain ⟨h1, h2⟩ := unrenL_spec (N := N) hl
      exact ⟨by simp only [ren, renL_eq, ← h1], h2⟩
    · cases h
  | .agg cs, d', h => by
    simp only [unren] at h
    split at h
    · rename_i l hl
      cases h
      obtain ⟨h1, h2⟩ := unrenL_spec (N := N) hl
      exact ⟨by simp only [ren, renL_eq, ← h1], h2⟩
    · cases h
  | .tup cs, d', h => by
    simp only [unren] at h
    split at h
    · rename_i l hl
      cases h
      obtain ⟨h1, h2⟩ := unrenL_spec (N := N) hl
      exact ⟨by simp only [ren, renL_eq, ← h1], h2⟩
    · cases h
  | .any, d', h | .int _ _, d', h | .bool _, d', h | .str _, d', h | .err _, d', h | .nilp, d', h | .box _, d', h | .nils, d', h | .sl _ _ _, d', h | .nilf, d', h => by
    simp only [unren] at h; cases h; exact ⟨rfl, rfl⟩
theorem unrenL_spec {is : List Nat} {N : Nat} : ∀ {l l' : List D}, unrenL is l = some l' → l = l'.map (ren (pi is N)) ∧ D.under.underL is.length l' = true
  | [], l', h => by simp only [unrenL] at h; cases h; exact ⟨rfl, rfl⟩
  | c :: r, l', h => by
    simp only [unrenL] at h
    split at h
    · rename_i c' r' hc hr
      cases h
      obtain ⟨h1, h2⟩ := unren_spec (N := N) hc
      obtain ⟨h3, h4⟩ := unrenL_spec (N := N) hr
      exact ⟨by rw [List.map_cons, ← h1, ← h3], by simp only [D.under.underL, h2, h4]⟩
    · cases h
end

theorem underL_all {n : Nat} : ∀ {l : List D}, D.under.underL n l = underAll n l
  | [] => rfl
  | c :: r => by
    simp only [D.under.underL, underAll, underL_all]

/-- Where an object of the contract comes from: an argument, or a cell of an object before it. -/
inductive Src where
  | arg (j : Nat) | cell (l j : Nat)

def ptrOf : D → Option Nat
  | .ptr i _ => some i
  | _ => none

def findIs (args : List D) (sto : Sto) : List Src → List Nat → Option (List Nat)
  | [], is => some is
  | .arg j :: r, is => match ptrOf (args.getD j .any) with
    | some i => match posOf is i, Nat.blt i sto.length with
      | none, true => findIs args sto r (is ++ [i])
      | _, _ => none
    | none => none
  | .cell l j :: r, is => match ptrOf ((sto.getD (is.getD l 0) []).getD j .any) with
    | some i => match posOf is i, Nat.blt i sto.length with
      | none, true => findIs args sto r (is ++ [i])
      | _, _ => none
    | none => none

def rowsOf (is : List Nat) (sto : Sto) : List Nat → Option Sto
  | [] => some []
  | i :: r => match unrenL is (sto.getD i []), rowsOf is sto r with
    | some cs, some rs => some (cs :: rs)
    | _, _ => none

/-- The state that the contract's function begins with. -/
def prep (src : List Src) (sh : List Sh) (c : SCode) (args : List D) (sto : Sto) : Option (List Nat × c.den) :=
  match findIs args sto src [] with
  | some is => match unrenL is (shapeL sh args), rowsOf is sto is with
    | some largs, some lsto => match decSt c ⟨largs, lsto⟩ with
      | some x => some (is, x)
      | none => none
    | _, _ => none
  | none => none

theorem findIs_spec {args : List D} {sto : Sto} : ∀ (src : List Src) (is is' : List Nat), findIs args sto src is = some is' → is.Nodup → (∀ i, i ∈ is → i < sto.length) → is'.Nodup ∧ ∀ i, i ∈ is' → i < sto.length := by
  have step : ∀ {i : Nat} {is : List Nat}, posOf is i = none → Nat.blt i sto.length = true → is.Nodup → (∀ i, i ∈ is → i < sto.length) → (is ++ [i]).Nodup ∧ ∀ j, j ∈ is ++ [i] → j < sto.length := by
    intro i is hp hb hn hl
    refine ⟨?_, fun j hj => ?_⟩
    · rw [List.nodup_append]
      refine ⟨hn, List.nodup_cons.2 ⟨by simp, .nil⟩, fun a ha b hb' e => ?_⟩
      simp only [List.mem_singleton] at hb'
      subst hb'; subst e
      obtain ⟨l, hl⟩ := List.mem_iff_getElem?.1 ha
      have := find_at hn hl
      unfold posOf at hp
      rw [this] at hp; cases hp
    · simp only [List.mem_append, List.mem_singleton] at hj
      rcases hj with hj | rfl
      · exact hl j hj
      · exact Nat.le_of_ble_eq_true hb
  intro src
  induction src with
  | nil => intro is is' h hn hl; cases h; exact ⟨hn, hl⟩
  | cons s r ih =>
    intro is is' h hn hl
    cases s with
    | arg j =>
      simp only [findIs] at h
      split at h
      · split at h
        · rename_i h1 h2
          obtain ⟨h3, h4⟩ := step h1 h2 hn hl
          exact ih _ _ h h3 h4
        · cases h
      · cases h
    | cell l j =>
      simp only [findIs] at h
      split at h
      · split at h
        · rename_i h1 h2
          obtain ⟨h3, h4⟩ := step h1 h2 hn hl
          exact ih _ _ h h3 h4
        · cases h
      · cases h

theorem rowsOf_spec {is : List Nat} {sto : Sto} {N : Nat} : ∀ (l : List Nat) (ls : Sto), rowsOf is sto l = some ls → ls.length = l.length ∧ ∀ (j i : Nat), l[j]? = some i → i < sto.length → ∃ cs, ls[j]? = some cs ∧ sto[i]? = some (cs.map (ren (pi is N))) ∧ underAll is.length cs = true
  | [], ls, h => by simp only [rowsOf] at h; cases h; exact ⟨rfl, fun j i hj => by simp at hj⟩
  | a :: r, ls, h => by
    simp only [rowsOf] at h
    split at h
    · rename_i cs rs hc hr
      cases h
      obtain ⟨h1, h2⟩ := rowsOf_spec r rs hr
      refine ⟨by simp [h1], fun j i hj hi => ?_⟩
      cases j with
      | zero =>
        simp at hj; subst hj
        obtain ⟨h3, h4⟩ := unrenL_spec (N := N) hc
        refine ⟨cs, rfl, ?_, by rw [← underL_all]; exact h4⟩
        rw [← h3]; simp [List.getD, hi]
      | succ j => simpa using h2 j i (by simpa using hj) hi
    · cases h

theorem prep_part {src : List Src} {sh : List Sh} {c : SCode} {args : List D} {sto : Sto} {is : List Nat} {x : c.den} (h : prep src sh c args sto = some (is, x)) :
    Part is (shapeL sh args) (mkSt c x).env sto (mkSt c x).sto := by
  unfold prep at h
  split at h
  · rename_i is' hf
    split at h
    · rename_i largs lsto h1 h2
      split at h
      · rename_i x' hx
        cases h
        have hmk := decSt_mk hx
        obtain ⟨hn, hl⟩ := findIs_spec _ _ _ hf .nil (fun i h => by simp at h)
        obtain ⟨h3, h4⟩ := unrenL_spec (N := sto.length) h1
        obtain ⟨h5, h6⟩ := rowsOf_spec (N := sto.length) _ _ h2
        rw [← hmk]
        exact ⟨hn, hl, h3, by rw [← underL_all]; exact h4, h5, fun l i hi => h6 l i hi (hl i (List.mem_of_getElem? hi))⟩
      · cases h
    · cases h
  · cases h

end Go.Ev

/-! Contracts of functions: what they are, and that they hold. -/
namespace Go.Ev
section
variable {P : Program} {X : Cfg} {cx : Cx}

/-- A function by its plain values: the objects that it is handed are laid anew. -/
def conFn (src : List Src) (sh : List Sh) (ac : SCode) (rs : SC) (rows : List (List LC)) (F : ac.den → Option (SCode.den ⟨[rs], rows⟩)) : Con := fun _ args sto K =>
  match prep src sh ac args sto with
  | some (is, x) => (F x).bind fun y => K (ren (pi is sto.length) ((mkSt ⟨[rs], rows⟩ y).env.headD .any)) (mergeS (pi is sto.length) is sto (mkSt ⟨[rs], rows⟩ y).sto)
  | none => none

/-- A function by its plain values: it leaves every object as it is. -/
def conCalm (src : List Src) (sh : List Sh) (ac : SCode) (rs : SC) (F : ac.den → Option (denE [rs] Unit)) : Con := fun _ args sto K =>
  match prep src sh ac args sto with
  | some (is, x) => (F x).bind fun y => K (ren (pi is sto.length) ((mkE [rs] y).1.headD .any)) sto
  | none => none

theorem conFn_bnd {src sh ac rs rows F} (args : List D) (sto : Sto) : ∃ s : Option (D × Sto), ∀ (R : Type) K, conFn src sh ac rs rows F R args sto K = s.bind fun p => K p.1 p.2 := by
  unfold conFn
  cases prep src sh ac args sto with
  | none => exact ⟨none, fun _ _ => rfl⟩
  | some p =>
    refine ⟨(F p.2).map fun y => (ren (pi p.1 sto.length) ((mkSt ⟨[rs], rows⟩ y).env.headD .any), mergeS (pi p.1 sto.length) p.1 sto (mkSt ⟨[rs], rows⟩ y).sto), fun R K => ?_⟩
    show (F p.2).bind _ = _
    cases F p.2 <;> rfl

theorem conCalm_bnd {src sh ac rs F} (args : List D) (sto : Sto) : ∃ s : Option (D × Sto), (∀ (R : Type) K, conCalm src sh ac rs F R args sto K = s.bind fun p => K p.1 p.2) ∧ ∀ p, s = some p → p.2 = sto := by
  unfold conCalm
  cases prep src sh ac args sto with
  | none => exact ⟨none, fun _ _ => rfl, fun _ h => by cases h⟩
  | some p =>
    refine ⟨(F p.2).map fun y => (ren (pi p.1 sto.length) ((mkE [rs] y).1.headD .any), sto), fun R K => ?_, fun q h => ?_⟩
    · show (F p.2).bind _ = _
      cases F p.2 <;> rfl
    · cases hF : F p.2 with
      | none => rw [hF] at h; cases h
      | some y => rw [hF] at h; cases h; rfl

theorem shapeL_sim {g : Gh} {w : World} {args : List D} {vals : List Value} {sto : Sto} (h : Sim X g w args vals sto) (sh : List Sh) : Sim X g w (shapeL sh args) vals sto := by
  refine h.weaken (shapeL_length sh args) (fun t d' hd => ?_) rfl (fun i cs' hi => ⟨cs', hi, fun j d' hj => ⟨d', hj, .inl rfl⟩⟩)
  obtain ⟨d, h1, h2⟩ := shapeL_get sh args t d' hd
  rcases h2 with rfl | ⟨s, rfl⟩
  · exact ⟨_, h1, .inl rfl⟩
  · exact ⟨d, h1, .inr (.inr ⟨s, rfl⟩)⟩

theorem mkE_one (rs : SC) {T : Type} (x : denE [rs] T) : ∃ d, (mkE [rs] x).1 = [d] := by
  cases rs <;> exact ⟨_, rfl⟩

theorem mergeS_same (π : Nat → Nat) : ∀ (is : List Nat) (sto ls : Sto), ls.length = is.length → (∀ (l i : Nat), is[l]? = some i → ∃ cs, ls[l]? = some cs ∧ sto[i]? = some (cs.map (ren π))) → mergeS π is sto ls = sto
  | [], sto, [], _, _ => rfl
  | [], sto, _ :: _, h, _ => by cases h
  | _ :: _, sto, [], h, _ => by cases h
  | i :: is, sto, cs :: r, hl, h => by
    simp only [mergeS]
    obtain ⟨cs0, h1, h2⟩ := h 0 i rfl
    simp at h1; subst h1
    have e : sto.set i (cs.map (ren π)) = sto := by
      apply List.ext_getElem?; intro j
      by_cases hij : i = j
      · subst hij; rw [List.getElem?_set_self (List.getElem?_eq_some_iff.1 h2).1, h2]
      · rw [List.getElem?_set_ne hij]
    rw [e]
    exact mergeS_same π is sto r (by simpa using hl) (fun l i hi => by simpa using h (l + 1) i (by simpa using hi))

open Classical in
theorem conFn_ok {f : FuncId} {raw : Con} (hraw : ConOk P X f raw) {src : List Src} {sh : List Sh} {ac : SCode} {rs : SC} {rows : List (List LC)} (F : (R : Type) → (SCode.den ⟨[rs], rows⟩ → Option R) → ac.den → Option R)
    (hT : ∀ (R : Type) (K : D → Sto → Option R) (x : ac.den), raw R (mkSt ac x).env (mkSt ac x).sto K = F R (fun y => K ((mkSt ⟨[rs], rows⟩ y).env.headD .any) (mkSt ⟨[rs], rows⟩ y).sto) x) :
    ConOk P X f (conFn src sh ac rs rows fun x => F _ some x) := by
  intro R args sto K r g w vals h hs
  unfold conFn at h
  split at h
  · rename_i is x hp
    obtain ⟨y, hy, hK⟩ := Option.bind_eq_some_iff.1 h
    have p := prep_part hp
    have hs' := shapeL_sim hs sh
    let K0 : D → Sto → Option (SCode.den ⟨[rs], rows⟩) := fun d s => if h : ∃ y, mkSt ⟨[rs], rows⟩ y = ⟨[d], s⟩ then some (Classical.choose h) else none
    have one : ∀ y : SCode.den ⟨[rs], rows⟩, mkSt ⟨[rs], rows⟩ y = ⟨[(mkSt ⟨[rs], rows⟩ y).env.headD .any], (mkSt ⟨[rs], rows⟩ y).sto⟩ := by
      intro y
      obtain ⟨d, hd⟩ := mkE_one rs y
      simp only [mkSt, hd, List.headD_cons]
    have hK0 : ∀ y : SCode.den ⟨[rs], rows⟩, K0 ((mkSt ⟨[rs], rows⟩ y).env.headD .any) (mkSt ⟨[rs], rows⟩ y).sto = some y := by
      intro y
      have hex : ∃ y', mkSt ⟨[rs], rows⟩ y' = ⟨[(mkSt ⟨[rs], rows⟩ y).env.headD .any], (mkSt ⟨[rs], rows⟩ y).sto⟩ := ⟨y, one y⟩
      refine (dif_pos hex).trans ?_
      congr 1
      exact mkSt_inj ((Classical.choose_spec hex).trans (one y).symm)
    have h0 : raw _ (mkSt ac x).env (mkSt ac x).sto K0 = some y := by
      rw [hT, funext hK0]; exact hy
    refine CallPost.mono_call (hraw _ _ _ K0 y _ w vals h0 (hs'.part p)) (fun e w' hp => ?_)
    obtain ⟨v, d, sto', g', he, hk, h1, e1⟩ := hp
    obtain ⟨g2, h2, e2⟩ := hs'.unpart p h1 e1
    have hd : mkSt ⟨[rs], rows⟩ y = ⟨[d], sto'⟩ := by
      simp only [K0] at hk
      split at hk
      · rename_i hex
        have hspec := Classical.choose_spec hex
        have hch := Option.some.inj hk
        rw [hch] at hspec
        exact hspec
      · cases hk
    refine ⟨v, _, _, g2, he, ?_, h2, e2⟩
    rw [hd] at hK
    exact hK
  · cases h

open Classical in
theorem conCalm_ok {f : FuncId} {raw : Con} (hraw : ConOk P X f raw) {src : List Src} {sh : List Sh} {ac : SCode} {rs : SC} (F : (R : Type) → (denE [rs] Unit → Option R) → ac.den → Option R)
    (hT : ∀ (R : Type) (K : D → Sto → Option R) (x : ac.den), raw R (mkSt ac x).env (mkSt ac x).sto K = F R (fun y => K ((mkE [rs] y).1.headD .any) (mkSt ac x).sto) x) :
    ConOk P X f (conCalm src sh ac rs fun x => F _ some x) := by
  intro R args sto K r g w vals h hs
  unfold conCalm at h
  split at h
  · rename_i is x hp
    obtain ⟨y, hy, hK⟩ := Option.bind_eq_some_iff.1 h
    have p := prep_part hp
    have hs' := shapeL_sim hs sh
    let K0 : D → Sto → Option (denE [rs] Unit) := fun d s => if h : s = (mkSt ac x).sto ∧ ∃ y : denE [rs] Unit, (mkE [rs] y).1 = [d] then some (Classical.choose h.2) else none
    have one : ∀ y : denE [rs] Unit, (mkE [rs] y).1 = [(mkE [rs] y).1.headD .any] := by
      intro y
      obtain ⟨d, hd⟩ := mkE_one rs y
      rw [hd]; rfl
    have inj : ∀ y y' : denE [rs] Unit, (mkE [rs] y).1 = (mkE [rs] y').1 → y = y' := fun y y' h => mkE_inj [rs] h rfl
    have hK0 : ∀ y : denE [rs] Unit, K0 ((mkE [rs] y).1.headD .any) (mkSt ac x).sto = some y := by
      intro y
      have hex : (mkSt ac x).sto = (mkSt ac x).sto ∧ ∃ y' : denE [rs] Unit, (mkE [rs] y').1 = [(mkE [rs] y).1.headD .any] := ⟨rfl, y, one y⟩
      refine (dif_pos hex).trans ?_
      congr 1
      exact inj _ _ ((Classical.choose_spec hex.2).trans (one y).symm)
    have h0 : raw _ (mkSt ac x).env (mkSt ac x).sto K0 = some y := by
      rw [hT, funext hK0]; exact hy
    refine CallPost.mono_call (hraw _ _ _ K0 y _ w vals h0 (hs'.part p)) (fun e w' hp => ?_)
    obtain ⟨v, d, sto', g', he, hk, h1, e1⟩ := hp
    obtain ⟨g2, h2, e2⟩ := hs'.unpart p h1 e1
    obtain ⟨hsto, hd⟩ : sto' = (mkSt ac x).sto ∧ (mkE [rs] y).1 = [d] := by
      simp only [K0] at hk
      split at hk
      · rename_i hex
        have hspec := Classical.choose_spec hex.2
        have hch := Option.some.inj hk
        rw [hch] at hspec
        exact ⟨hex.1, hspec⟩
      · cases hk
    rw [hsto, mergeS_same _ _ _ _ p.len (fun l i hi => by obtain ⟨cs, a, b, _⟩ := p.obj l i hi; exact ⟨cs, a, b⟩)] at h2
    refine ⟨v, _, _, g2, he, ?_, h2, e2⟩
    rw [hd] at hK
    exact hK
  · cases h

end
end Go.Ev

/-! What the generator's texts lean on. -/
namespace Go.Ev

def bodyC (fn : Func) : Code := match fn.body with
  | some c => c
  | none => .skip

def loopC (fn : Func) (i : Nat) : Code := (loopsIn (bodyC fn)).getD i .skip

section
variable {P : Program} {X : Cfg} {cx : Cx}

def AllCon (P : Program) (X : Cfg) : List (Nat × Con) → Prop
  | [] => True
  | p :: r => ConOk P X p.1 p.2 ∧ AllCon P X r

theorem AllCon.get : ∀ {l : List (Nat × Con)}, AllCon P X l → ∀ f c, look l f = some c → ConOk P X f c
  | [], _, f, c, h => by simp [look] at h
  | (a, x) :: r, h, f, c, hl => by
    unfold look at hl
    split at hl
    · rename_i he
      cases hl
      exact Nat.eq_of_beq_eq_true he ▸ h.1
    · exact AllCon.get h.2 f c hl

def AllFn (P : Program) : List (Nat × Func) → Prop
  | [] => True
  | p :: r => (P.funcs[p.1]? = some p.2 ∧ enters p.2 = true) ∧ AllFn P r

theorem AllFn.get : ∀ {l : List (Nat × Func)}, AllFn P l → ∀ f fn, look l f = some fn → P.funcs[f]? = some fn ∧ enters fn = true
  | [], _, f, c, h => by simp [look] at h
  | (a, x) :: r, h, f, c, hl => by
    unfold look at hl
    split at hl
    · rename_i he
      cases hl
      exact Nat.eq_of_beq_eq_true he ▸ h.1
    · exact AllFn.get h.2 f c hl

def BndC (calm : List Nat) (f : Nat) (c : Con) : Prop := ∀ args sto, ∃ s : Option (D × Sto), (∀ (R : Type) K, c R args sto K = s.bind fun p => K p.1 p.2) ∧ (calm.any (Nat.beq f) = true → ∀ p, s = some p → p.2 = sto)

def AllBnd (calm : List Nat) : List (Nat × Con) → Prop
  | [] => True
  | p :: r => BndC calm p.1 p.2 ∧ AllBnd calm r

theorem AllBnd.get {calm : List Nat} : ∀ {l : List (Nat × Con)}, AllBnd calm l → ∀ f, (l.map (·.1)).any (Nat.beq f) = true → ∃ c, look l f = some c ∧ BndC calm f c
  | [], _, f, h => by simp at h
  | (a, x) :: r, h, f, hl => by
    unfold look
    cases he : Nat.beq a f with
    | true => exact ⟨x, rfl, Nat.eq_of_beq_eq_true he ▸ h.1⟩
    | false =>
      refine AllBnd.get h.2 f ?_
      simp only [List.map_cons, List.any_cons, Bool.or_eq_true] at hl
      rcases hl with hl | hl
      · have := Nat.eq_of_beq_eq_true hl
        subst this
        rw [Nat.beq_refl] at he; cases he
      · exact hl

theorem bndCalm {calm : List Nat} {f : Nat} {src sh ac rs F} : BndC calm f (conCalm src sh ac rs F) := fun args sto =>
  let ⟨s, h1, h2⟩ := conCalm_bnd (src := src) (sh := sh) (ac := ac) (rs := rs) (F := F) args sto
  ⟨s, h1, fun _ => h2⟩

theorem bndFn {calm : List Nat} {f : Nat} (hf : calm.any (Nat.beq f) = false) {src sh ac rs rows F} : BndC calm f (conFn src sh ac rs rows F) := fun args sto =>
  let ⟨s, h1⟩ := conFn_bnd (src := src) (sh := sh) (ac := ac) (rs := rs) (rows := rows) (F := F) args sto
  ⟨s, h1, fun h => by rw [hf] at h; cases h⟩

/-- Two contracts of one function: the first where its codes fit. -/
def conOr (p : List D → Sto → Bool) (a b : Con) : Con := fun R args sto K => match p args sto with
  | true => a R args sto K
  | false => b R args sto K

theorem conOr_ok {p a b} {f : FuncId} (ha : ConOk P X f a) (hb : ConOk P X f b) : ConOk P X f (conOr p a b) := by
  intro R args sto K r g w vals h hs
  unfold conOr at h
  split at h
  · exact ha _ _ _ _ _ _ _ _ h hs
  · exact hb _ _ _ _ _ _ _ _ h hs

theorem bndOr {calm : List Nat} {f : Nat} {p a b} (ha : BndC calm f a) (hb : BndC calm f b) : BndC calm f (conOr p a b) := by
  intro args sto
  cases hp : p args sto with
  | true => obtain ⟨s, h1, h2⟩ := ha args sto; exact ⟨s, fun R K => by simp only [conOr, hp]; exact h1 R K, h2⟩
  | false => obtain ⟨s, h1, h2⟩ := hb args sto; exact ⟨s, fun R K => by simp only [conOr, hp]; exact h1 R K, h2⟩

theorem csOk (hb : CxOk P X cx) (hm : P.follows .mixedOrders = true) (hc : AllCon P X cx.con) (hf : AllFn P cx.funs) (hbn : AllBnd cx.calm cx.con) (hbe : cx.bnd = cx.con.map (·.1)) : CsOk P X cx :=
  ⟨hb, hm, hc.get, hf.get, fun f h => hbn.get f (hbe ▸ h)⟩

/-! ### Loops and joins -/

def smallKeys : List (Nat × LH) → Bool
  | [] => true
  | p :: r => match Nat.blt p.1 1000000 with
    | true => smallKeys r
    | false => false

theorem look_big : ∀ {l : List (Nat × LH)} {n : Nat}, smallKeys l = true → look l (n + 1000000) = none
  | [], _, _ => rfl
  | (a, x) :: r, n, h => by
    unfold smallKeys at h
    split at h
    · rename_i hb
      have hlt : a < 1000000 := Nat.le_of_ble_eq_true hb
      unfold look
      have : Nat.beq a (n + 1000000) = false := by
        cases he : Nat.beq a (n + 1000000) with
        | false => rfl
        | true => have := Nat.eq_of_beq_eq_true he; omega
      rw [this]
      exact look_big h
    · cases h

theorem joins_none {R : Type} {hc : FuncId → List D → Sto → (D → Sto → Option R) → Option R} {keep : List (Nat × LH)} (h : smallKeys keep = true) (c : Code) : ∀ c' ∈ joinsIn c, JOkR cx hc keep c' := by
  intro c' _ lh lc h1
  unfold joinAt at h1
  cases hf : firstRegion c' with
  | none => rw [hf] at h1; cases h1
  | some n => rw [hf] at h1; simp only [Option.bind_some, look_big h] at h1; cases h1

theorem lok_none {R : Type} {hc : FuncId → List D → Sto → (D → Sto → Option R) → Option R} {keep : List (Nat × LH)} {c : Code} (h : ((firstRegion c).bind (look keep)).isNone = true) : LOkR cx hc keep c := by
  intro lh lc h1
  rw [h1] at h; cases h

theorem loops_all {R : Type} {hc : FuncId → List D → Sto → (D → Sto → Option R) → Option R} {keep : List (Nat × LH)} {fn : Func} (n : Nat) (hn : (loopsIn (bodyC fn)).length = n) (h : ∀ i, i < n → LOkR cx hc keep (loopC fn i)) : ∀ c' ∈ loopsIn (bodyC fn), LOkR cx hc keep c' := by
  intro c' hc'
  obtain ⟨i, hi⟩ := List.mem_iff_getElem?.1 hc'
  have hlt : i < n := hn ▸ (List.getElem?_eq_some_iff.1 hi).1
  have := h i hlt
  unfold loopC at this
  rw [List.getD, hi] at this
  exact this

/-- A function's contract, out of its body's walk. -/
theorem raw_ok (h : CsOk P X cx) (n : Nat) {f : FuncId} {fn : Func} {keep : List (Nat × LH)} {sh : List Sh} (hf : P.funcs[f]? = some fn) (he : enters fn = true) (hk : smallKeys keep = true)
    (hl : ∀ R, ∀ c' ∈ loopsIn (bodyC fn), LOkR (R := R) cx (hcN cx n) keep c') : ConOk P X f (fun _ args sto K => evBody cx (hcN cx n) keep sh fn (bodyC fn) args sto K) := by
  have hb : fn.body = some (bodyC fn) := by
    unfold enters at he
    unfold bodyC
    cases hb : fn.body with
    | none => rw [hb] at he; simp at he
    | some c => rfl
  exact conOk_of h n hf he hb hl (fun R => joins_none hk _) (fun R args sto K r hr => hr)

end
end Go.Ev

/-! From a row's reading of the arguments to the evaluator's values, and back from its answer to the row. -/
namespace Go.Ev

def partsB (tb : TypeId → Ty → Bool) (P : Program) : List (Nat × TypeId) → Nat → Ty → Bool
  | [], _, .unit => true
  | p :: r, o, .pair a b => match Nat.beq p.1 o, Nat.beq (P.cellsOf p.2) a.size, tb p.2 a with
    | true, true, true => partsB tb P r (o + a.size) b
    | _, _, _ => false
  | _, _, _ => false

/-- Does a type have a code? -/
def tyB (P : Program) : Nat → TypeId → Ty → Bool
  | 0, _, _ => false
  | n + 1, t, ty => match P.underlying t with
    | some (.int k) => match ty with
      | .byte => decide (k = .u8)
      | .int k' => decide (k = k')
      | _ => false
    | some .bool => match ty with
      | .bool => true
      | _ => false
    | some .string => match ty with
      | .str => true
      | _ => false
    | some (.slice e) => match ty with
      | .slice ty => match Nat.beq (P.cellsOf e) ty.size, Nat.ble 1 ty.size, Nat.ble ty.bytes (P.bytesOf e) with
        | true, true, true => tyB P n e ty
        | _, _, _ => false
      | _ => false
    | some (.struct fs) => match Nat.beq (P.cellsOf t) ty.size with
      | true => partsB (tyB P n) P (fs.toList.map fun f => (f.offset, f.type)) 0 ty
      | false => false
    | some (.array m e) => match Nat.beq (P.cellsOf t) ty.size with
      | true => partsB (tyB P n) P ((List.range m).map fun i => (i * P.cellsOf e, e)) 0 ty
      | false => false
    | _ => false

/-- Nothing that is there turns. -/
def G0 (w : World) (b : Nat) : Nat := match w.heap[b]? with
  | some (.cells c _ _) => c.size
  | _ => 0

theorem G0_lt {w : World} {b o : Nat} {v : Value} (h : w.cell? ⟨b, o, none⟩ = some v) : o < G0 w b := by
  unfold World.cell? at h
  unfold G0
  simp only at h
  split at h
  · rename_i c _ _ hb
    rw [hb]
    simp only [Option.isSome_none, Bool.false_eq_true, if_false] at h
    exact (Array.getElem?_eq_some_iff.1 h).1
  · cases h

theorem cell_spot {w : World} {a : Addr} {v : Value} (h : w.cell? a = some v) : a = ⟨a.block, a.off, none⟩ := by
  obtain ⟨b, o, s⟩ := a
  cases s with
  | none => rfl
  | some s =>
    unfold World.cell? at h
    simp only at h
    split at h
    · simp at h
    · cases h

theorem add_add (a : Addr) (i j : Nat) : (a.add i).add j = a.add (i + j) := by
  obtain ⟨b, o, s⟩ := a
  by_cases hi : i = 0 <;> by_cases hj : j = 0 <;> simp [Addr.add, hi, hj, Nat.add_assoc]

theorem choose_list {α : Type} {p : Nat → α → Prop} : ∀ (n : Nat), (∀ i, i < n → ∃ x, p i x) → ∃ l : List α, l.length = n ∧ ∀ i x, l[i]? = some x → p i x
  | 0, _ => ⟨[], rfl, fun i x h => by simp at h⟩
  | n + 1, h => by
    obtain ⟨l, hl, hp⟩ := choose_list n (fun i hi => h i (by omega))
    obtain ⟨x, hx⟩ := h n (by omega)
    refine ⟨l ++ [x], by simp [hl], fun i y hy => ?_⟩
    by_cases hi : i < l.length
    · rw [List.getElem?_append_left hi] at hy; exact hp i y hy
    · rw [List.getElem?_append_right (by omega)] at hy
      have : i = n := by
        have := (List.getElem?_eq_some_iff.1 hy).1; simp at this; omega
      subst this
      simp [hl] at hy; subst hy; exact hx

theorem wf_inr {k : IntKind} {n : Int} (h : (Lit.int k n).wf = true) : InR k n := by
  cases k <;> simp [Lit.wf, IntKind.min, IntKind.max, IntKind.signed, IntKind.bits] at h <;> simp [InR, lo, hi] <;> omega

section
variable {H : Type} {enc : TypeId × Value → H} {P : Program} {X : Cfg} {w : World} {base : Nat} {spare : Nat → Bool} {held : Bool}

def Ws (P : Program) (t : TypeId) (d : DataW H) : Prop := ∀ n, n ∈ d.weights P t → n ≤ reachBytes

/-- Cells, from one on, stand for a value. -/
def Stands (X : Cfg) (w : World) (t : Ty) (x : t.den) (cs : List Value) (o : Nat) : Prop :=
  ∀ (j : Nat) c, (cells t x)[j]? = some c → ∃ v, cs[o + j]? = some v ∧ RepV X [] (G0 w) w c v

theorem parts_read {tb : TypeId → Ty → Bool} {cs : List Value} {n : Nat}
    (htb : ∀ (t : TypeId) (ty : Ty), tb t ty = true → ∀ (cs : List Value) (x : DataW H × List MemPlace), DataW.trod enc P w base spare held n t cs = some x → Ws P t x.1 → ∃ y : ty.den, Wf ty y ∧ cs.length = ty.size ∧ Stands X w ty y cs 0) :
    ∀ (fl : List (Nat × TypeId)) (o : Nat) (ty : Ty) (xs : List (DataW H × List MemPlace)), partsB tb P fl o ty = true → xs.length = fl.length →
      (∀ (i : Nat) f, fl[i]? = some f → DataW.trod enc P w base spare held n f.2 ((cs.drop f.1).take (P.cellsOf f.2)) = xs[i]?) →
      (∀ m, m ∈ DataW.weightsEach P (fl.map (·.2)) (xs.map (·.1)) → m ≤ reachBytes) → ∃ y : ty.den, Wf ty y ∧ Stands X w ty y cs o
  | [], o, ty, xs, hb, _, _, _ => by
    cases ty <;> simp [partsB] at hb
    exact ⟨(), trivial, fun j c h => by simp [cells] at h⟩
  | p :: r, o, ty, xs, hb, hl, hr, hw => by
    cases ty with
    | pair a b =>
      unfold partsB at hb
      split at hb
      · rename_i h1 h2 h3
        have e1 := Nat.eq_of_beq_eq_true h1
        have e2 := Nat.eq_of_beq_eq_true h2
        cases xs with
        | nil => simp at hl
        | cons x xs =>
          have h0 := hr 0 p rfl
          simp only [List.getElem?_cons_zero] at h0
          simp only [List.map_cons, DataW.weightsEach, List.mem_append] at hw
          obtain ⟨y, hy1, hy2, hy3⟩ := htb _ _ h3 _ _ h0 (fun m hm => hw m (.inl hm))
          obtain ⟨z, hz1, hz2⟩ := parts_read htb r (o + a.size) b xs hb (by simpa using hl) (fun i f hf => by simpa using hr (i + 1) f (by simpa using hf)) (fun m hm => hw m (.inr hm))
          refine ⟨(y, z), ⟨hy1, hz1⟩, fun j c hj => ?_⟩
          simp only [cells] at hj
          have hca := cells_length a y
          by_cases hja : j < a.size
          · rw [List.getElem?_append_left (by omega)] at hj
            obtain ⟨v, hv, hrv⟩ := hy3 j c hj
            refine ⟨v, ?_, hrv⟩
            rw [Nat.zero_add, List.getElem?_take, List.getElem?_drop, e1] at hv
            split at hv
            · exact hv
            · cases hv
          · rw [List.getElem?_append_right (by omega), hca] at hj
            obtain ⟨v, hv, hrv⟩ := hz2 _ c hj
            exact ⟨v, by rw [← hv]; congr 1; omega, hrv⟩
      · cases hb
    | _ => simp [partsB] at hb

theorem read_ty : ∀ (n : Nat) (t : TypeId) (ty : Ty), tyB P n t ty = true → ∀ (fuel : Nat) (cs : List Value) (x : DataW H × List MemPlace), DataW.trod enc P w base spare held fuel t cs = some x → Ws P t x.1 →
    ∃ y : ty.den, Wf ty y ∧ cs.length = ty.size ∧ Stands X w ty y cs 0
  | 0, t, ty, h => by simp [tyB] at h
  | n + 1, t, ty, h => by
    intro fuel cs x hx hw
    unfold tyB at h
    split at h
    · rename_i k hu
      obtain ⟨m, rfl, rfl, hwf⟩ := DataW.trod_int hu hx
      have hin := wf_inr hwf
      split at h
      · have := of_decide_eq_true h
        subst this
        have h2 : 0 ≤ m ∧ m ≤ 255 := by simpa [InR, lo, hi] using hin
        refine ⟨UInt8.ofNat m.toNat, trivial, rfl, fun j c hj => ?_⟩
        cases j with
        | zero =>
          simp [cells] at hj; subst hj
          have e : ((m.toNat % 256 : Nat) : Int) = m := by omega
          refine ⟨_, rfl, ?_⟩
          have e' : (max m 0 % 256 : Int) = m := by omega
          first | rw [e'] | rw [e]
          exact .int hin
        | succ j => simp [cells] at hj
      · have := of_decide_eq_true h
        subst this
        refine ⟨m, hin, rfl, fun j c hj => ?_⟩
        cases j with
        | zero => simp [cells] at hj; subst hj; exact ⟨_, rfl, .int hin⟩
        | succ j => simp [cells] at hj
      · cases h
    · rename_i hu
      obtain ⟨b, rfl, rfl⟩ := DataW.trod_bool hu hx
      split at h
      · refine ⟨b, trivial, rfl, fun j c hj => ?_⟩
        cases j with
        | zero => simp [cells] at hj; subst hj; exact ⟨_, rfl, .bool b⟩
        | succ j => simp [cells] at hj
      · cases h
    · rename_i hu
      obtain ⟨s, rfl, rfl, hs⟩ := DataW.trod_string hu hx
      split at h
      · have hlen : s.data.toList.length ≤ reachBytes := hw _ (by simp [DataW.weights])
        refine ⟨s.data.toList, by simpa [Wf, reachBytes] using hlen, rfl, fun j c hj => ?_⟩
        cases j with
        | zero => simp [cells] at hj; subst hj; exact ⟨_, rfl, .str s (by unfold maxLen at hs; omega)⟩
        | succ j => simp [cells] at hj
      · cases h
    · rename_i e hu
      split at h
      · rename_i _ ty
        split at h
        · rename_i h1 h2 h3
          have e1 := Nat.eq_of_beq_eq_true h1
          have e2 := Nat.le_of_ble_eq_true h2
          have e3 := Nat.le_of_ble_eq_true h3
          rcases DataW.trod_slice hu hx with ⟨rfl, rfl⟩ | ⟨a, len, cap, elems, rest, m, rfl, rfl, rfl, hb, hlc, hcm, hel, hg, _⟩
          · refine ⟨[], ⟨by simp, fun x hx => by simp at hx⟩, rfl, fun j c hj => ?_⟩
            cases j with
            | zero => simp [cells] at hj; subst hj; exact ⟨_, rfl, .slNil⟩
            | succ j => simp [cells] at hj
          · simp only [Ws, DataW.weights, hu, List.mem_cons, List.mem_append] at hw
            have hw0 := hw _ (.inl rfl)
            have hwe : ∀ (i : Nat) (x : DataW H × List MemPlace), elems[i]? = some x → Ws P e x.1 := by
              intro i x hi m hm
              refine hw m (.inr (.inl ?_))
              have aux : ∀ (l : List (DataW H × List MemPlace)) (i : Nat), l[i]? = some x → m ∈ DataW.weightsAll P e (l.map (·.1)) := by
                intro l
                induction l with
                | nil => intro i h; simp at h
                | cons a r ih =>
                  intro i h
                  simp only [List.map_cons, DataW.weightsAll, List.mem_append]
                  cases i with
                  | zero => simp at h; subst h; exact .inl hm
                  | succ i => exact .inr (ih i (by simpa using h))
              exact aux elems i hi
            have each : ∀ i, i < len → ∃ y : ty.den, Wf ty y ∧ ∀ (j : Nat) c, (cells ty y)[j]? = some c → ∃ v, w.cell? (a.add (i * ty.size + j)) = some v ∧ RepV X [] (G0 w) w c v := by
              intro i hi
              have hgi := hg i hi
              have hie : i < elems.length := by omega
              rw [List.getElem?_eq_getElem hie] at hgi
              obtain ⟨cs', hc', ht'⟩ := Option.bind_eq_some_iff.1 hgi
              obtain ⟨_, hcl, hcc⟩ := World.cells?_some hc'
              obtain ⟨y, hy1, hy2, hy3⟩ := read_ty n e ty h m cs' _ ht' (hwe i _ (List.getElem?_eq_getElem hie))
              refine ⟨y, hy1, fun j c hj => ?_⟩
              obtain ⟨v, hv, hrv⟩ := hy3 j c hj
              rw [Nat.zero_add] at hv
              have hjl := (List.getElem?_eq_some_iff.1 hv).1
              have := hcc j (by omega)
              refine ⟨v, ?_, hrv⟩
              rw [← hv, ← this, e1, add_add]
            obtain ⟨l, hll, hl⟩ := choose_list len each
            have hwl : l.length * ty.bytes ≤ 140737488351232 := by
              have : l.length * ty.bytes ≤ (elems.length + rest.length) * P.bytesOf e := Nat.mul_le_mul (by omega) e3
              simp only [List.length_map] at hw0
              unfold reachBytes at hw0
              omega
            refine ⟨l, ⟨hwl, fun x hx => ?_⟩, rfl, fun j c hj => ?_⟩
            · obtain ⟨i, hi⟩ := List.mem_iff_getElem?.1 hx
              exact (hl i x hi).1
            · cases j with
              | succ j => simp [cells] at hj
              | zero =>
                simp only [cells, List.getElem?_cons_zero, Option.some.injEq] at hj; subst hj
                refine ⟨_, rfl, ?_⟩
                subst hll
                unfold maxLen at hcm
                cases hl0 : l with
                | nil => exact .slE (by decide) (by intro h; cases h) (by omega)
                | cons x0 r =>
                  rw [← hl0]
                  have hpos : 0 < l.length := by rw [hl0]; simp
                  have cellAt : ∀ q, q < l.length * ty.size → ∃ v, w.cell? (a.add q) = some v := by
                    intro q hq
                    have hi : q / ty.size < l.length := Nat.div_lt_of_lt_mul (by rw [Nat.mul_comm]; exact hq)
                    have hcl := cells_length ty l[q / ty.size]
                    have hm : q % ty.size < ty.size := Nat.mod_lt _ (by omega)
                    obtain ⟨v, hv, _⟩ := (hl (q / ty.size) _ (List.getElem?_eq_getElem hi)).2 (q % ty.size) _ (List.getElem?_eq_getElem (by omega))
                    refine ⟨v, ?_⟩
                    rw [Nat.mul_comm, Nat.div_add_mod] at hv
                    exact hv
                  have hmul : 0 < l.length * ty.size := Nat.mul_pos hpos (by omega)
                  obtain ⟨v0, hv0⟩ := cellAt 0 hmul
                  have ha : a = ⟨a.block, a.off, none⟩ := by
                    have := cell_spot hv0
                    cases a; simp [Addr.add] at this; simpa using this
                  obtain ⟨b, off, s⟩ := a
                  simp only [Addr.mk.injEq] at ha
                  obtain ⟨_, _, rfl⟩ := ha
                  have cellAt' : ∀ q, q < l.length * ty.size → w.cell? ⟨b, off + q, none⟩ = some ((w.cell? ⟨b, off + q, none⟩).getD undef) := by
                    intro q hq
                    obtain ⟨v, hv⟩ := cellAt q hq
                    rw [Addr.add_mid] at hv
                    rw [hv]; rfl
                  refine .sl (fun q => (w.cell? ⟨b, off + q, none⟩).getD undef) hlc (by intro h; cases h) (by omega) ?_ cellAt' (fun i x hx j c hj => ?_)
                  · have := G0_lt (cellAt' (l.length * ty.size - 1) (by omega))
                    omega
                  · obtain ⟨v, hv, hrv⟩ := (hl i x hx).2 j c hj
                    rw [Addr.add_mid] at hv
                    show RepV X [] (G0 w) w c ((w.cell? ⟨b, off + (i * ty.size + j), none⟩).getD undef)
                    rw [hv]; exact hrv
        · cases h
      · cases h
    · rename_i fs hu
      split at h
      · rename_i h1
        obtain ⟨xs, m, rfl, rfl, hcl, hxl, hg⟩ := DataW.trod_struct hu hx
        obtain ⟨y, hy1, hy2⟩ := parts_read (cs := cs) (n := m) (fun t' ty' h' cs' x' hx' hw' => read_ty n t' ty' h' m cs' x' hx' hw') _ 0 ty xs h (by simp [hxl])
          (fun i f hf => by
            simp only [List.getElem?_map, Option.map_eq_some_iff] at hf
            obtain ⟨f0, hf0, rfl⟩ := hf
            exact hg i f0 (by simpa using hf0))
          (fun m' hm' => hw m' (by simpa [DataW.weights, hu, Function.comp_def] using hm'))
        exact ⟨y, hy1, hcl.trans (Nat.eq_of_beq_eq_true h1), hy2⟩
      · cases h
    · rename_i ml e hu
      split at h
      · rename_i h1
        obtain ⟨xs, m, rfl, rfl, hcl, hxl, hg⟩ := DataW.trod_array hu hx
        obtain ⟨y, hy1, hy2⟩ := parts_read (cs := cs) (n := m) (fun t' ty' h' cs' x' hx' hw' => read_ty n t' ty' h' m cs' x' hx' hw') _ 0 ty xs h (by simp [hxl])
          (fun i f hf => by
            simp only [List.getElem?_map, Option.map_eq_some_iff] at hf
            obtain ⟨f0, hf0, rfl⟩ := hf
            have hi := (List.getElem?_eq_some_iff.1 hf0)
            obtain ⟨hi1, hi2⟩ := hi
            simp at hi1 hi2
            subst hi2
            exact hg i hi1)
          (fun m' hm' => hw m' (by
            simp only [DataW.weights, hu]
            have aux : ∀ (l : List (DataW H × List MemPlace)) (is : List Nat), is.length = l.length → DataW.weightsEach P ((is.map fun i => (i * P.cellsOf e, e)).map (·.2)) (l.map (·.1)) = DataW.weightsAll P e (l.map (·.1)) := by
              intro l
              induction l with
              | nil => intro is h; cases is <;> simp [DataW.weightsEach, DataW.weightsAll] at h ⊢
              | cons a r ih =>
                intro is h
                cases is with
                | nil => simp at h
                | cons i is =>
                  simp only [List.map_cons, DataW.weightsEach, DataW.weightsAll]
                  rw [ih is (by simpa using h)]
            rw [aux xs _ (by simp [hxl])] at hm'
            exact hm'))
        exact ⟨y, hy1, hcl.trans (Nat.eq_of_beq_eq_true h1), hy2⟩
      · cases h
    · cases h

end
end Go.Ev

/-! A law's row out of its evaluator's answer. -/
namespace Go.Ev
open Go.RowKit Go.ChangeShapes Go.WideShapes

def envA : (ts : List Ty) → denA ts → List D
  | [], _ => []
  | t :: r, x => enc t x.1 :: envA r x.2

def tysB (P : Program) (n : Nat) : List TypeId → List Ty → Bool
  | [], [] => true
  | t :: ts, ty :: tys => match tyB P n t ty with
    | true => tysB P n ts tys
    | false => false
  | _, _ => false

section
variable {H : Type} {en : TypeId × Value → H} {P : Program} {X : Cfg} {w : World} {spare : Nat → Bool} {held : Bool} {r : Reach} {b0 : Nat}

theorem enc_leaf {ty : Ty} (h : ty.agg = false) (x : ty.den) : enc ty x = (cells ty x).headD .any := by unfold enc; rw [h]
theorem enc_agg {ty : Ty} (h : ty.agg = true) (x : ty.den) : enc ty x = .agg (cells ty x) := by unfold enc; rw [h]

theorem arg_read {n : Nat} {t : TypeId} {ty : Ty} {v : Value} {d : DataW H} {ps : List MemPlace} (hb : tyB P n t ty = true) (hval : Value.okWide P w r b0 t v) (hd : DataW.Trod en P w 0 spare held t v d ps) (hw : Ws P t d) :
    ∃ y : ty.den, Wf ty y ∧ RepV X [] (G0 w) w (enc ty y) v := by
  obtain ⟨fuel, hf⟩ := hd
  obtain ⟨y, hy, hl, hst⟩ := read_ty (X := X) n t ty hb fuel _ _ hf hw
  refine ⟨y, hy, ?_⟩
  have leafCase : v.cells.toList = [v] → ty.agg = false → RepV X [] (G0 w) w (enc ty y) v := by
    intro hc hag
    rw [enc_leaf hag]
    rw [hc] at hl
    have hcl := cells_length ty y
    cases hcs : cells ty y with
    | nil => rw [hcs] at hcl; simp at hcl hl; omega
    | cons c r =>
      obtain ⟨v', hv', hr⟩ := hst 0 c (by rw [hcs]; rfl)
      rw [hc] at hv'; simp at hv'; subst hv'; exact hr
  have aggCase : (∃ cs, v = .agg cs) → ty.agg = true → RepV X [] (G0 w) w (enc ty y) v := by
    rintro ⟨cs, rfl⟩ hag
    rw [enc_agg hag]
    have hcl := cells_length ty y
    refine .agg (by simp [Value.cells] at hl; omega) (fun j c hj => ?_)
    obtain ⟨v', hv', hr⟩ := hst j c hj
    simp only [Value.cells, Nat.zero_add] at hv'
    have : cs.getD j undef = v' := by
      simp only [Array.getElem?_toList] at hv'
      simp [Array.getD_eq_getD_getElem?, hv']
    rw [this]; exact hr
  cases n with
  | zero => simp [tyB] at hb
  | succ n =>
    unfold tyB at hb
    split at hb
    · rename_i k hu
      obtain ⟨m, rfl⟩ := okWide_int hu hval
      refine leafCase rfl ?_
      split at hb <;> first | rfl | cases hb
    · rename_i hu
      obtain ⟨m, rfl⟩ := okWide_bool hu hval
      refine leafCase rfl ?_
      split at hb <;> first | rfl | cases hb
    · rename_i hu
      obtain ⟨m, rfl⟩ := okWide_string hu hval
      refine leafCase rfl ?_
      split at hb <;> first | rfl | cases hb
    · rename_i e hu
      obtain ⟨a, len, cap, rfl⟩ := okWide_slice hu hval
      refine leafCase rfl ?_
      split at hb <;> first | rfl | cases hb
    · rename_i fs hu
      refine aggCase ?_ ?_
      · unfold Value.okWide at hval
        rw [hu] at hval
        obtain ⟨cs, rfl, _⟩ := hval; exact ⟨cs, rfl⟩
      · split at hb
        · cases hfs : fs.toList.map (fun f => (f.offset, f.type)) with
          | nil => rw [hfs] at hb; cases ty <;> first | rfl | cases hb
          | cons p r => rw [hfs] at hb; cases ty <;> first | rfl | cases hb
        · cases hb
    · rename_i m e hu
      refine aggCase ?_ ?_
      · unfold Value.okWide at hval
        rw [hu] at hval
        obtain ⟨cs, rfl, _⟩ := hval; exact ⟨cs, rfl⟩
      · split at hb
        · cases hfs : (List.range m).map (fun i => (i * P.cellsOf e, e)) with
          | nil => rw [hfs] at hb; cases ty <;> first | rfl | cases hb
          | cons p r => rw [hfs] at hb; cases ty <;> first | rfl | cases hb
        · cases hb
    · cases hb

theorem args_read {n : Nat} : ∀ (ts : List TypeId) (tys : List Ty) (vs : List Value) (ds : List (DataW H)) (ps : List MemPlace), tysB P n ts tys = true → DataW.TrodAll en P w 0 spare held ts vs ds ps →
    (∀ (j : Nat) t v, ts[j]? = some t → vs[j]? = some v → Value.okWide P w r b0 t v) → (∀ m, m ∈ DataW.weightsEach P ts ds → m ≤ reachBytes) →
    ds.length = ts.length ∧ ∃ x : denA tys, WfA tys x ∧ (envA tys x).length = vs.length ∧ ∀ (j : Nat) d v, (envA tys x)[j]? = some d → vs[j]? = some v → RepV X [] (G0 w) w d v
  | [], tys, vs, ds, ps, hb, hd, _, _ => by
    cases tys with
    | cons _ _ => cases hb
    | nil =>
      cases vs <;> cases ds <;> simp [DataW.TrodAll] at hd
      exact ⟨rfl, (), trivial, rfl, fun j d v h => by simp [envA] at h⟩
  | t :: ts, tys, vs, ds, ps, hb, hd, hval, hw => by
    cases tys with
    | nil => cases hb
    | cons ty tys =>
      unfold tysB at hb
      split at hb
      · rename_i h1
        cases vs with
        | nil => cases ds <;> simp [DataW.TrodAll] at hd
        | cons v vs =>
          cases ds with
          | nil => simp [DataW.TrodAll] at hd
          | cons d ds =>
            obtain ⟨p, q, hd1, hd2, rfl⟩ := hd
            simp only [DataW.weightsEach, List.mem_append] at hw
            obtain ⟨y, hy1, hy2⟩ := arg_read (X := X) h1 (hval 0 t v rfl rfl) hd1 (fun m hm => hw m (.inl hm))
            obtain ⟨hl, x, hx1, hx2, hx3⟩ := args_read ts tys vs ds q hb hd2 (fun j t' v' h2 h3 => hval (j + 1) t' v' (by simpa using h2) (by simpa using h3)) (fun m hm => hw m (.inr hm))
            refine ⟨by simp [hl], (y, x), ⟨hy1, hx1⟩, by simp [envA, hx2], fun j d' v' h2 h3 => ?_⟩
            cases j with
            | zero => simp [envA] at h2 h3; subst h2; subst h3; exact hy2
            | succ j => simp [envA] at h2 h3; exact hx3 j d' v' h2 h3
      · cases hb

theorem free_cells : ∀ (t : Ty) (x : t.den), (cells t x).all D.free1 = true
  | .int _, _ | .byte, _ | .bool, _ | .str, _ | .err, _ | .slice _, _ | .unit, _ | .ex, _ => rfl
  | .pair a b, x => by simp only [cells, List.all_append, free_cells a x.1, free_cells b x.2, Bool.and_self]

theorem free_enc (t : Ty) (x : t.den) : (enc t x).free = true := by
  cases h : t.agg with
  | true => rw [enc_agg h]; exact free_cells t x
  | false =>
    rw [enc_leaf h]
    cases t <;> first | rfl | cases h

theorem free_env : ∀ (ts : List Ty) (x : denA ts) (d : D), d ∈ envA ts x → d.free = true
  | [], _, d, h => by simp [envA] at h
  | t :: r, x, d, h => by
    simp only [envA, List.mem_cons] at h
    rcases h with rfl | h
    · exact free_enc t x.1
    · exact free_env r x.2 d h

/-- The state in which a law begins: nothing that is there may turn, nothing is ours. -/
theorem sim0 {env : List D} {vals : List Value} (hl : env.length = vals.length) (hr : ∀ (j : Nat) d v, env[j]? = some d → vals[j]? = some v → RepV X [] (G0 w) w d v) (hf : ∀ d, d ∈ env → d.free = true) :
    Sim X ⟨[], G0 w, fun _ => none⟩ w env vals [] := by
  refine ⟨hl, hr, rfl, fun i b cs h => by simp at h, ?_, fun b ℓ h => by simp at h, fun b hb => ?_⟩
  · intro ℓ t l a len cap ho
    exfalso
    generalize hx : D.sl .own t l = x at ho
    cases ho with
    | leaf hd hv => subst hx; have := hf _ (List.mem_of_getElem? hd); cases this
    | agg hd hv hj he => subst hx; have := free1_get (hf _ (List.mem_of_getElem? hd)) hj; cases this
    | tup hd hv hj he => subst hx; have := free1_get (hf _ (List.mem_of_getElem? hd)) hj; cases this
    | cell hi hb hj hv => simp at hi
  · unfold G0
    simp only
    rw [Array.getElem?_eq_none hb]

/-- What a law's answer is read as. -/
def askB : D → Sto → Option (Bool × Unit) := fun d _ => match d with
  | .bool b => some (b, ())
  | _ => none

theorem law_calls {f : FuncId} {fn : Func} {raw : Con} (hraw : ConOk P X f raw) (hf : P.funcs[f]? = some fn) (he : enters fn = true) {env : List D} {vals : List Value}
    (hs : Sim X ⟨[], G0 w, fun _ => none⟩ w env vals []) (hT : raw (Bool × Unit) env [] askB = some (true, ())) :
    Calls P f vals.toArray w fun e w' => e = .returned (.bool true) ∧ Below w.heap.size w w' := by
  have fin : ∀ e w', CallPost X ⟨[], G0 w, fun _ => none⟩ w askB (true, ()) e w' → e = .returned (.bool true) ∧ Below w.heap.size w w' := by
    rintro e w' ⟨v, d, sto', g', rfl, hk, h1, e1⟩
    have hd : d = .bool true := by
      unfold askB at hk
      split at hk
      · cases hk; rfl
      · cases hk
    subst hd
    have hrep := h1.rep 0 _ _ rfl rfl
    cases hrep
    exact ⟨rfl, e1.os, e1.tape, e1.output, e1.size, fun k hk => e1.blk k hk rfl⟩
  rcases hraw _ _ _ _ _ _ _ _ hT hs with ⟨_, hc⟩ | ⟨v, w', hc, _⟩
  · exact hc.mono fin
  · have := run_enter hf he vals.toArray w
    rw [this] at hc; cases hc

theorem trodAll_carry (hl : laidOutB P = true) {W W' : World} : ∀ (ts : List TypeId) (vs : List Value) (ds : List (DataW H)) (ps : List MemPlace), ts.all (fun t => P.readableRec t && decide (t < P.types.size)) = true →
    DataW.TrodAll en P W 0 (fun _ => true) true ts vs ds ps → Below W.heap.size W W' → (∀ x, x ∈ ps → x.block < W.heap.size) → DataW.TrodAll en P W' 0 (fun b => decide (b < W.heap.size)) true ts vs ds ps
  | [], vs, ds, ps, _, h, _, _ => by cases vs <;> cases ds <;> simp [DataW.TrodAll] at h ⊢; exact h
  | t :: ts, [], ds, ps, _, h, _, _ => by simp [DataW.TrodAll] at h
  | t :: ts, v :: vs, [], ps, _, h, _, _ => by simp [DataW.TrodAll] at h
  | t :: ts, v :: vs, d :: ds, ps, hr, h, hb, hlt => by
    obtain ⟨p, q, h1, h2, rfl⟩ := h
    simp only [List.all_cons, Bool.and_eq_true, decide_eq_true_eq] at hr
    exact ⟨p, q, Below.trod hl hr.1.1 hr.1.2 h1 hb (fun x hx => hlt x (by simp [hx])), trodAll_carry hl ts vs ds q hr.2 h2 hb (fun x hx => hlt x (by simp [hx])), rfl⟩

/-- A law: called with whatever reads as data, it answers true, and nothing that was there turns. -/
theorem law_lifted {C : Checked} {os : Os} {f : FuncId} {fn : Func} {s : ChangeSpec} {conds : List PathCond} {raw : Con} (n : Nat) (tys : List Ty)
    (own : ownKnob C.prog.godebug = none) (started : os.Started) (noInit : C.prog.inits.idxOf? f = none) (hfn : C.prog.funcs[f]? = some fn) (he : enters fn = true)
    (witness : ∃ (w : World) (tape : Tape) (i : Input), w.os = os ∧ (w.forCall tape i).Shaped C.prog ∧ i.vars = [] ∧ Input.okWide C.prog (w.forCall tape i) .any w.heap.size f i ∧
      s.pre6 en C.prog fn conds false (w.forCall tape i).memory i.args ∧ ({} : Assume).holds C.prog (lone (Frame.enter C.prog f i.args .normal) [] (w.forCall tape i)))
    (hvars : s.vars = []) (hspec : ∀ ds : List (DataW H), ds.length = fn.params.toList.length → s.fn H ds = { results := [.lit (.bool true)], args := ds })
    (hrt : ∃ t, fn.resultTypes = #[t] ∧ C.prog.underlying t = some .bool) (htys : tysB C.prog n fn.params.toList tys = true) (hlaid : laidOutB C.prog = true)
    (hread : fn.params.toList.all (fun t => C.prog.readableRec t && decide (t < C.prog.types.size)) = true) (hraw : ConOk C.prog X f raw)
    (hpure : ∀ x : denA tys, WfA tys x → raw (Bool × Unit) (envA tys x) [] askB = some (true, ())) :
    ReturnsInHanded {} C os f .any (s.pre6 en C.prog fn conds false) (s.post en C.prog fn false true false false) := by
  refine returnsInHanded_of_change_sized own started noInit hfn witness ?_
  intro W base args ds gs before hval hW _ hsz _
  have hW' := hW
  obtain ⟨p, q, hA, hV, rfl, _, _⟩ := hW
  have hlt : ∀ x, x ∈ p → x.block < W.heap.size := fun x hx => hW'.lt x (by simp [hx])
  have hV0 := hV
  rw [hvars] at hV0
  obtain ⟨rfl, rfl⟩ := trodVars_none hV0
  have hsz' : ∀ m, m ∈ DataW.weightsEach C.prog fn.params.toList ds → m ≤ reachBytes := by
    intro m hm
    have e : s.plain.varTypes C.prog = [] := by simp [DataSpec.varTypes, ChangeSpec.plain, hvars]
    rw [e, List.append_nil, List.append_nil] at hsz
    have := List.all_eq_true.1 hsz m hm
    simpa using this
  obtain ⟨hdl, x, hx, hxl, hxr⟩ := args_read (X := X) (n := n) fn.params.toList tys args.toList ds p htys hA (fun j t v h1 h2 => hval j t v (by simpa using h1) (by simpa using h2)) hsz'
  have hcalls := law_calls (w := W) hraw hfn he (sim0 hxl hxr (free_env tys x)) (hpure x hx)
  refine hcalls.mono fun e W' ⟨he', bel⟩ => ⟨_, he', ?_⟩
  obtain ⟨rt, hrt1, hrt2⟩ := hrt
  refine ⟨ds, [], p ++ [], [], p, [], hW', ?_, ?_, ?_, bel.frame _, fun h => by cases h⟩
  · rw [hspec _ (by simpa using hdl), hrt1]
    exact trodAll_mk1 (shut_bool hrt2 _)
  · rw [hspec _ (by simpa using hdl)]
    simpa using trodAll_carry hlaid _ _ _ _ hread hA bel hlt
  · rw [hspec _ (by simpa using hdl), hvars]
    rfl

end
end Go.Ev
