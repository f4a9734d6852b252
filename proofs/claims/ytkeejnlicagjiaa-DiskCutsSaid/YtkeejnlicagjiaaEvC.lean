/-
  The statement DiskCuts of the program is proved: for every input that the row speaks of, the law answers true.
  Conditions: those that the statement's row prints, and no other. This text: an evaluator of the model's code over plain values, and that it is sound (part 3).
-/
import Derived.Test.YtkeejnlicagjiaaEvB
import Derived.LoopN
set_option linter.unusedVariables false
set_option linter.unusedSimpArgs false
namespace Go.Ev
section
variable {P : Program} {X : Cfg} {R : Type} {w : World}
variable {g : Gh} {env : List D} {sto : Sto} {o : Oper} {a : Act} {k : St → Option R} {r : R} {cx : Cx}

/-- Rows of cells, element by element, in one array. -/
structure Elems (X : Cfg) (g : Gh) (w : World) (sz : Nat) (cs : List (List D)) (V : Array Value) : Prop where
  size : V.size = cs.length * sz
  rep : ∀ (i : Nat) c, cs[i]? = some c → c.length = sz ∧ ∀ (j : Nat) d, c[j]? = some d → ∃ u, V[i * sz + j]? = some u ∧ RepV X g.φ g.G w d u

theorem fillL_sound (hs : Sim X g w env a.tmps.toList sto) {sz : Nat} {place : Nat → Option (Nat × Nat)} (hp : ∀ i, place i = some (i * sz, sz)) :
    ∀ (parts : List (Nat × Operand)) (cs cs' : List (List D)) (V : Array Value), fillL sz env parts cs = some cs' → Elems X g w sz cs V →
      ∃ V', Instr.fill place V (parts.map fun p => (p.1, a.eval p.2)) = some V' ∧ Elems X g w sz cs' V' ∧ cs'.length = cs.length
  | [], cs, cs', V, h, hV => by
    cases h; exact ⟨V, rfl, hV, rfl⟩
  | (i, x) :: rest, cs, cs', V, h, hV => by
    unfold fillL at h
    simp only at h
    split at h
    · rename_i h1 h2
      obtain ⟨hl, hlv, h1s⟩ := fits_spec h1
      have hi : i < cs.length := Nat.le_of_ble_eq_true h2
      have hne : (rd env x).cells ≠ [] := by intro e; rw [e] at hl; simp at hl; omega
      obtain ⟨hvs, hvr⟩ := cells_rep (hs.read x) hne
      rw [hl] at hvs
      have hmul : i * sz + sz ≤ cs.length * sz := by rw [← Nat.succ_mul]; exact Nat.mul_le_mul_right _ hi
      obtain ⟨V1, hf, hsz, hget⟩ := fill_one (V := V) (rest := rest.map fun p => (p.1, a.eval p.2)) (hp i) hvs (by rw [hV.size]; exact hmul)
      have hV1 : Elems X g w sz (cs.set i (rd env x).cells) V1 := by
        refine ⟨by rw [hsz, hV.size]; simp, fun i' c hc => ?_⟩
        rcases get_set_eq hc with ⟨rfl, _, rfl⟩ | ⟨hne, hc⟩
        · refine ⟨hl, fun j d hj => ?_⟩
          obtain ⟨u, hu, hr⟩ := hvr j d hj
          have hjs : j < sz := hl ▸ (List.getElem?_eq_some_iff.1 hj).1
          refine ⟨u, ?_, hr⟩
          rw [hget, if_pos ⟨by omega, by omega⟩, show i * sz + j - i * sz = j by omega]
          exact hu
        · obtain ⟨hcl, hcr⟩ := hV.rep i' c hc
          refine ⟨hcl, fun j d hj => ?_⟩
          obtain ⟨u, hu, hr⟩ := hcr j d hj
          have hjs : j < sz := hcl ▸ (List.getElem?_eq_some_iff.1 hj).1
          refine ⟨u, ?_, hr⟩
          rw [hget, if_neg, hu]
          rintro ⟨h3, h4⟩
          rcases Nat.lt_or_gt_of_ne hne with h5 | h5
          · have : (i + 1) * sz ≤ i' * sz := Nat.mul_le_mul_right _ h5
            rw [Nat.succ_mul] at this; omega
          · have : (i' + 1) * sz ≤ i * sz := Nat.mul_le_mul_right _ h5
            rw [Nat.succ_mul] at this; omega
      obtain ⟨V', h3, h4, h5⟩ := fillL_sound hs hp rest _ cs' V1 h hV1
      exact ⟨V', by rw [List.map_cons, hf]; exact h3, h4, by rw [h5]; simp⟩
    · cases h

theorem zeros_elems {te : TE} {e : TypeId} (hte : TEok P e te) {i : TypeInfo} {z : Value} (hz : zeroL te.zero z.cells.toList = true) (h1 : 1 ≤ te.size) (n : Nat) :
    Elems X g w te.size (List.replicate n te.zero) ((Array.range (n * te.size)).map (z.cells[· % z.cells.size]!)) := by
  obtain ⟨hl, hg⟩ := zeroL_spec hz
  rw [hte.zlen] at hl
  have hzs : z.cells.size = te.size := by simpa using hl
  refine ⟨by simp, fun i' c hc => ?_⟩
  have hi : i' < n := by have := (List.getElem?_eq_some_iff.1 hc).1; simpa using this
  have : c = te.zero := by
    rw [List.getElem?_replicate, if_pos hi] at hc; exact (Option.some.inj hc).symm
  subst this
  refine ⟨hte.zlen, fun j d hj => ?_⟩
  obtain ⟨u, hu, hz1⟩ := hg j d hj
  have hjs : j < te.size := hte.zlen ▸ (List.getElem?_eq_some_iff.1 hj).1
  have hidx : i' * te.size + j < n * te.size := cell_idx hi hjs
  refine ⟨u, ?_, (zero1_spec hz1).1⟩
  rw [Array.getElem?_map]
  simp only [Array.getElem?_range, hidx, if_true, Option.map_some]
  congr 1
  rw [hzs, Nat.mul_comm, Nat.mul_add_mod, Nat.mod_eq_of_lt hjs]
  have hu' : z.cells[j]? = some u := by simpa using hu
  rw [getElem!_pos _ _ (by rw [hzs]; exact hjs)]
  exact (Array.getElem?_eq_some_iff.1 hu').2

theorem run_buildSlice {t e : TypeId} {len : Nat} {i : TypeInfo} {z : Value} (hu : P.underlying t = some (.slice e)) (hi : P.info? e = some i) (hz : i.zero = some z) (hgt : ¬ (len * i.size > 2 ^ 24))
    {ps : Array (Nat × Value)} {V : Array Value} (hf : Instr.fill (fun k => some (k * i.size, i.size)) ((Array.range (len * i.size)).map (z.cells[· % z.cells.size]!)) ps.toList = some V) :
    (Instr.buildSlice t len ps).run P w = .ok (.slice (some ⟨w.heap.size, 0, none⟩) len len) (w.alloc (.cells V e)) := by
  unfold Instr.buildSlice
  by_cases h0 : len * i.size = 0
  · have e1 : ∀ q : Array Value, (Array.range (len * i.size)).map (fun k => q[k % q.size]!) = #[] := fun q => by rw [h0]; simp
    rw [e1] at hf
    simp only [Sem.run_bind, run_underlying hu, Result.andThen_ok, sizeOf, typeInfo, program, Sem.run, hi, Sem.run_pure, if_neg hgt, if_pos h0, e1, hf]
    rfl
  · simp only [Sem.run_bind, run_underlying hu, Result.andThen_ok, sizeOf, typeInfo, program, Sem.run, hi, Sem.run_pure, if_neg hgt, if_neg h0, run_zero hi hz, hf]
    rfl

theorem op_buildSlice (hcx : CxOk P X cx) {t e : TypeId} {len : Nat} {parts : Array (Nat × Operand)} (ho : o.op = .buildSlice t len parts) (hs : Sim X g w env a.tmps.toList sto) {ts te : TE} {ty : Ty} {cs : List (List D)} {l : List ty.den}
    (h1 : look cx.tab t = some ts) (hd : ts.d = .slice e) (h2 : look cx.tab e = some te) (hty : te.ty = some ty) (hf : fillL te.size env parts.toList (List.replicate len te.zero) = some cs) (hdec : decRow ty cs = some l)
    (hle : len * te.size ≤ 16777216) (hk : k ⟨put env o.dst (.sl .own ty l), sto⟩ = some r) : OpOk P X o a w g k r := by
  have hu := desc_slice hcx h1 hd
  have hte := hcx.tab _ _ h2
  obtain ⟨i, z, hi, hisz, hiby, hz, hzl⟩ := hte.info
  obtain ⟨hts, hta, h1s, h1b⟩ := hte.ty ty hty
  have hV0 := zeros_elems (P := P) (X := X) (g := g) (w := w) hte (i := i) hzl h1s len
  obtain ⟨V, hV, hel, hcl⟩ := fillL_sound (a := a) hs (place := fun i => some (i * te.size, te.size)) (fun _ => rfl) parts.toList _ cs _ hf hV0
  obtain ⟨hll, hlr⟩ := decRow_sound hdec
  have hcl2 : cs.length = len := by rw [hcl]; simp
  have hlen : l.length = len := hll.trans hcl2
  obtain ⟨g1, h3, e1⟩ := hs.newOwn (t := ty) (l := l) V e (0, 0) len (fun j => V.getD j undef)
    (fun j hj => by
      rw [hlen, hts, ← hcl2, ← hel.size] at hj
      simp [Array.getD, hj])
    (fun ii x hx j c hc => by
      obtain ⟨cc, hcc, hdp⟩ := hlr ii x hx
      obtain ⟨hccl, hccr⟩ := hel.rep ii cc hcc
      obtain ⟨_, _, hdr⟩ := decP_sound (X := X) (φ := g.φ) (G := g.G) (w := w) ty cc x [] hdp
      have := hdr (fun j => V.getD (ii * te.size + j) undef) (fun j d _ hj => by
        obtain ⟨u, hu, hr⟩ := hccr j d hj
        have : V.getD (ii * te.size + j) undef = u := by simp only [Array.getD_eq_getD_getElem?, hu]; rfl
        rw [this]; exact hr) j c hc
      rw [hts]; exact this)
    (by omega) (by have := Nat.le_mul_of_pos_right len h1s; omega) (by rw [hel.size, hcl2, hts]; exact Nat.le_refl _) (.inl (Nat.le_refl _))
  obtain ⟨g2, h4, e2, _⟩ := h3.lay o.dst
  refine ⟨_, _, g2, _, _, .inl ?_, hk, h4, e1.trans e2⟩
  rw [hlen]
  have hps : (parts.map fun p => (p.1, a.eval p.2)).toList = parts.toList.map fun p => (p.1, a.eval p.2) := by simp
  have hrun := run_buildSlice (P := P) (w := w) (len := len) hu hi hz (ps := parts.map fun p => (p.1, a.eval p.2)) (V := V) (by rw [hisz]; omega) (by rw [hisz, hps]; exact hV)
  simp only [execOp, ho, Sem.run_bind]
  have hrun' : (Instr.buildSlice t len (parts.map fun x => match x with | (i, x) => (i, a.eval x))).run P w = .ok (.slice (some ⟨w.heap.size, 0, none⟩) len len) (w.alloc (.cells V e)) := hrun
  rw [hrun']
  rfl

/-- Where the parts of slot n + 1 go: into the struct in slot n, from 'off' on. -/
def mergeL (n off : Nat) : Loc → Loc
  | .env t 0 => if t = n + 1 then .env n (off + 1) else .env t 0
  | .env t (j + 1) => if t = n + 1 then .env n (off + j + 1) else .env t (j + 1)
  | ℓ => ℓ

theorem mergeL_other {n off t j : Nat} (h : t ≠ n + 1) : mergeL n off (.env t j) = .env t j := by cases j <;> simp [mergeL, h]
theorem mergeL_cell {n off m j : Nat} (h : m = 0 ∧ j = 0 ∨ m = j + 1) : mergeL n off (.env (n + 1) m) = .env n (off + j + 1) := by
  rcases h with ⟨rfl, rfl⟩ | rfl <;> simp [mergeL]

theorem Sim.merge {g env vals sto} {cs : List D} {vs : Array Value} {d : D} {v : Value} (h : Sim X g w ((env ++ [.agg cs]) ++ [d]) ((vals ++ [.agg vs]) ++ [v]) sto) (hn : d.cells ≠ []) {off : Nat}
    (hle : off + d.cells.length ≤ cs.length) {vs' : Array Value} (hsz : vs'.size = vs.size) (hget : ∀ k, vs'[k]? = if off ≤ k ∧ k < off + d.cells.length then v.cells[k - off]? else vs[k]?) :
    ∃ g', Sim X g' w (env ++ [.agg (splice cs off d.cells)]) (vals ++ [.agg vs']) sto ∧ Ext g w g' w ∧ g'.φ = g.φ ∧ g'.G = g.G := by
  have hl1 : (env ++ [D.agg cs]).length = (vals ++ [Value.agg vs]).length := by have := h.len; simpa using this
  have hl : env.length = vals.length := by simpa using hl1
  have hdv := h.rep (env ++ [D.agg cs]).length d v (by simp) (by rw [hl1]; simp)
  have hav := h.rep env.length (.agg cs) (.agg vs) (by rw [List.getElem?_append_left (by simp)]; simp) (by rw [List.getElem?_append_left (by simp [hl]), hl]; simp)
  obtain ⟨hcsz, hcr⟩ := cells_rep hdv hn
  have hspl : (splice cs off d.cells).length = cs.length := by simp [splice]; omega
  obtain ⟨havl, havr⟩ : vs.size = cs.length ∧ ∀ (j : Nat) c, cs[j]? = some c → RepV X g.φ g.G w c (vs.getD j undef) := by
    cases hav with | agg h1 h2 => exact ⟨h1, h2⟩
  have hout : ∀ j, (j < off ∨ off + d.cells.length ≤ j) → vs'.getD j undef = vs.getD j undef := fun j hj => by
    simp only [Array.getD_eq_getD_getElem?, hget j]; rw [if_neg (by omega)]
  have hin : ∀ j u, v.cells[j]? = some u → j < d.cells.length → vs'.getD (off + j) undef = u := fun j u hu hj => by
    simp only [Array.getD_eq_getD_getElem?, hget (off + j)]
    rw [if_pos ⟨by omega, by omega⟩, show off + j - off = j by omega, hu]; rfl
  refine ⟨_, h.re (mergeL env.length off) (fun _ => rfl) (by simp [hl]) ?_ ?_, .names _, rfl, rfl⟩
  · intro t d' u hd hu
    rcases getElem?_snoc hd with ⟨ht, hd⟩ | ⟨rfl, rfl⟩
    · rw [List.getElem?_append_left (hl ▸ ht)] at hu
      exact h.rep t d' u (by rw [List.getElem?_append_left (by simp; omega), List.getElem?_append_left ht]; exact hd) (by rw [List.getElem?_append_left (by simp; omega), List.getElem?_append_left (hl ▸ ht)]; exact hu)
    · rw [hl] at hu; simp at hu; subst hu
      refine .agg (by rw [hspl, hsz, havl]) (fun j c hj => ?_)
      by_cases hj2 : j < off ∨ off + d.cells.length ≤ j
      · rw [splice_get_out hle hj2] at hj
        rw [hout j hj2]; exact havr j c hj
      · obtain ⟨j', rfl⟩ : ∃ j', j = off + j' := ⟨j - off, by omega⟩
        rw [splice_get_in hle (by omega)] at hj
        obtain ⟨u, hu, hr⟩ := hcr j' c hj
        rw [hin j' u hu (by omega)]; exact hr
  · intro ℓ md ty l aa len cap hoc hmd
    cases ℓ with
    | env t j =>
      by_cases ht : t < env.length
      · refine ⟨.env t j, mergeL_other (by omega), hoc.shift ?_ ?_⟩
        · rw [List.getElem?_append_left (by simp; omega), List.getElem?_append_left ht, List.getElem?_append_left ht]
        · rw [List.getElem?_append_left (by simp; omega), List.getElem?_append_left (hl ▸ ht), List.getElem?_append_left (hl ▸ ht)]
      · have he : t = env.length := by have := hoc.lt; simp at this; omega
        subst he
        generalize hℓ : Loc.env env.length j = ℓ at hoc
        generalize hxx : D.sl md ty l = xx at hoc
        generalize hyy : Value.slice (some aa) len cap = yy at hoc
        cases hoc with
        | leaf hd hv' => cases hℓ; simp at hd; subst hd; cases hxx
        | tup hd hv' hj' he => cases hℓ; simp at hd
        | cell => cases hℓ
        | agg hd hv' hj' he =>
          cases hℓ
          simp at hd; rw [hl] at hv'; simp at hv'
          subst hd; subst hv'; subst hxx; subst hyy
          rename_i j
          by_cases hj2 : j < off ∨ off + d.cells.length ≤ j
          · rw [splice_get_out hle hj2] at hj'
            rw [hout j hj2] at he
            exact ⟨.env env.length (j + 1), mergeL_other (by omega), .agg (cs := cs) (vs := vs) (by rw [List.getElem?_append_left (by simp)]; simp) (by rw [List.getElem?_append_left (by simp [hl]), hl]; simp) hj' he⟩
          · obtain ⟨j', rfl⟩ : ∃ j', j = off + j' := ⟨j - off, by omega⟩
            rw [splice_get_in hle (by omega)] at hj'
            obtain ⟨u, hu, hr⟩ := hcr j' _ hj'
            rw [hin j' u hu (by omega)] at he
            subst he
            obtain ⟨m, hm, hmj⟩ := Occ.of_cells (φ := g.φ) (w := w) (sto := sto) hl1 (fun _ => hcsz) hj' hu (rep_agg hdv) (rep_leaf hdv hn)
            have e : (env ++ [D.agg cs]).length = env.length + 1 := by simp
            rw [e] at hm
            exact ⟨_, mergeL_cell hmj, hm⟩
    | obj i => exact hoc.not_obj.elim
    | cell i j => exact ⟨.cell i j, rfl, hoc.of_slot (fun _ _ h => by cases h)⟩

theorem getD_hand {env hs : List D} {t : Nat} (ht : t < env.length) : (env ++ hs).getD t .any = env.getD t .any := by
  simp only [List.getD]; rw [List.getElem?_append_left ht]

/-- An operand comes to hand, behind what is in hand already. -/
theorem Sim.take2 {h1 : D} {v1 : Value} (hs : Sim X g w (env ++ [h1]) (a.tmps.toList ++ [v1]) sto) (x : Operand) (hne : (rd env x).cells ≠ []) :
    ∃ g', Sim X g' w ((left env x ++ [h1]) ++ [rd env x]) ((a.tmps.toList ++ [v1]) ++ [a.eval x]) sto ∧ Ext g w g' w ∧ g'.φ = g.φ ∧ g'.G = g.G := by
  have hl : env.length = a.tmps.toList.length := by have := hs.len; simpa using this
  have hr := hs.drop.read x
  cases x with
  | tmp t =>
    have ht : t < env.length := by
      rcases Nat.lt_or_ge t env.length with h | h
      · exact h
      · exfalso; apply hne
        show (env.getD t .any).cells = []
        rw [getD_out h]; rfl
    have hv : t < a.tmps.size := Nat.lt_of_lt_of_eq ht (hl.trans Array.length_toList)
    obtain ⟨g', h2, e, e1, e2⟩ := hs.hand (s := t) (d := env.getD t .any) (v := a.tmps.getD t undef) (by rw [List.getElem?_append_left ht]; exact rd_tmp_get ht)
      (by rw [List.getElem?_append_left (hl ▸ ht)]; simp [Array.getD, hv])
    refine ⟨g', ?_, e, e1, e2⟩
    rw [List.set_append_left _ _ ht] at h2
    exact h2
  | const v => exact ⟨g, hs.push _ _ hr (const_free v), .refl _ _, rfl, rfl⟩
  | func f => exact ⟨g, hs.push _ _ hr rfl, .refl _ _, rfl, rfl⟩
  | global b => exact absurd rfl hne

theorem fillS_sound {fs : List FI} {place : Nat → Option (Nat × Nat)} (hp : ∀ (i : Nat) fi, fs[i]? = some fi → place i = some (fi.off, fi.size)) :
    ∀ (parts : List (Nat × Operand)) (env env' : List D) (cs cs' : List D) (V : Array Value) (g : Gh), fillS fs env parts cs = some (cs', env') → Sim X g w (env ++ [.agg cs]) (a.tmps.toList ++ [.agg V]) sto →
      ∃ V' g', Instr.fill place V (parts.map fun p => (p.1, a.eval p.2)) = some V' ∧ Sim X g' w (env' ++ [.agg cs']) (a.tmps.toList ++ [.agg V']) sto ∧ Ext g w g' w
  | [], env, env', cs, cs', V, g, h, hs => by
    cases h; exact ⟨V, g, rfl, hs, .refl _ _⟩
  | (i, x) :: rest, env, env', cs, cs', V, g, h, hs => by
    unfold fillS at h
    split at h
    · rename_i fi hfi
      split at h
      · rename_i h1 h2
        obtain ⟨hl, hlv, h1s⟩ := fits_spec h1
        have hne : (rd env x).cells ≠ [] := by intro e; rw [e] at hl; simp at hl; omega
        have hle := Nat.le_of_ble_eq_true h2
        have hln : env.length = a.tmps.toList.length := by have := hs.len; simpa using this
        have hag := hs.rep env.length (.agg cs) (.agg V) (by simp) (by rw [hln]; simp)
        have hVs : V.size = cs.length := by cases hag with | agg h _ => exact h
        obtain ⟨hvs, _⟩ := cells_rep (hs.drop.read x) hne
        obtain ⟨V1, hf, hsz, hget⟩ := fill_one (V := V) (rest := rest.map fun p => (p.1, a.eval p.2)) (hp i fi hfi) (hvs.trans hl) (by rw [hVs]; omega)
        obtain ⟨g1, h3, e1, _⟩ := hs.take2 x hne
        obtain ⟨g2, h4, e2, _⟩ := h3.merge hne hle hsz (fun k => by rw [hget k, hl])
        obtain ⟨V', g', h5, h6, h7⟩ := fillS_sound hp rest _ env' _ cs' V1 g2 h h4
        exact ⟨V', g', by rw [List.map_cons, hf]; exact h5, h6, e1.trans (e2.trans h7)⟩
      · cases h
    · cases h

theorem run_places : ∀ {fs : List FI} {F : List Field}, fieldsB P fs F = true → (F.mapM fun f => (do pure (f.offset, ← sizeOf f.type) : Sem (Nat × Nat))).run P w = .ok (fs.map fun fi => (fi.off, fi.size)) w
  | [], [], _ => rfl
  | [], _ :: _, h => by cases h
  | _ :: _, [], h => by cases h
  | fi :: fs, f :: F, h => by
    rw [fieldsB, Bool.and_eq_true] at h
    obtain ⟨h1, h2⟩ := h
    have ih := run_places h2
    obtain ⟨fl, e1, e2, e3, _⟩ := field_get (P := P) (fs := [fi]) (F := #[f]) (by simp [fieldsB, h1]) (f := 0) (fi := fi) rfl
    simp at e1; subst e1
    rw [List.mapM_cons]
    simp only [Sem.run_bind, e3, Result.andThen_ok, Sem.run_pure, ih, e2]
    rfl

theorem op_build (hcx : CxOk P X cx) {t : TypeId} {parts : Array (Nat × Operand)} (ho : o.op = .build t parts) (hs : Sim X g w env a.tmps.toList sto) {ts : TE} {fs : List FI} {cs env' : List D}
    (h1 : look cx.tab t = some ts) (hd : ts.d = .struct fs) (hf : fillS fs env parts.toList ts.zero = some (cs, env')) (hk : k ⟨put env' o.dst (.agg cs), sto⟩ = some r) : OpOk P X o a w g k r := by
  obtain ⟨F, hu, hF⟩ := desc_struct hcx h1 hd
  have hte := hcx.tab _ _ h1
  obtain ⟨i, z, hi, _, _, hz, hzl⟩ := hte.info
  obtain ⟨hzlen, hzg⟩ := zeroL_spec hzl
  have hrep : RepV X g.φ g.G w (.agg ts.zero) (.agg z.cells) := .agg (by simpa using hzlen) (fun j c hj => by
    obtain ⟨u, hu, hz1⟩ := hzg j c hj
    have : (z.cells).getD j undef = u := by
      have hu' : z.cells[j]? = some u := by simpa using hu
      have := (Array.getElem?_eq_some_iff.1 hu')
      simp [Array.getD, this.1, this.2]
    rw [this]; exact (zero1_spec hz1).1)
  have hfree : (D.agg ts.zero).free = true := by
    simp only [D.free, List.all_eq_true]
    intro c hc
    obtain ⟨j, hj⟩ := List.mem_iff_getElem?.1 hc
    obtain ⟨u, hu, hz1⟩ := hzg j c hj
    unfold zero1 at hz1
    split at hz1 <;> first | rfl | cases hz1
  obtain ⟨V', g', h3, h4, e1⟩ := fillS_sound (a := a) (place := fun i => (fs.map fun fi => (fi.off, fi.size)).toArray[i]?) (fun i fi hfi => by simp [hfi]) parts.toList env env' ts.zero cs z.cells g hf (hs.push _ _ hrep hfree)
  obtain ⟨g2, h5, e2, _⟩ := h4.lay o.dst
  refine ⟨_, w, g2, _, _, .inl ?_, hk, h5, e1.trans e2⟩
  have hpl : (F.mapM fun f => (do pure (f.offset, ← sizeOf f.type) : Sem (Nat × Nat))).run P w = .ok (fs.map fun fi => (fi.off, fi.size)).toArray w := by
    rw [Array.mapM_eq_mapM_toList]
    have := run_places (w := w) hF
    simp only [map_eq_pure_bind, Sem.run_bind, this, Result.andThen_ok, Sem.run_pure]
  have hps : (parts.map fun p => (p.1, a.eval p.2)).toList = parts.toList.map fun p => (p.1, a.eval p.2) := by simp
  have hrun : (Instr.build t (parts.map fun p => (p.1, a.eval p.2))).run P w = .ok (.agg V') w := by
    unfold Instr.build
    have h3' : Instr.fill (fun x => (fs.map fun fi => (fi.off, fi.size)).toArray[x]?) z.cells (parts.map fun p => (p.1, a.eval p.2)).toList = some V' := by rw [hps]; exact h3
    simp only [Sem.run_bind, run_zero hi hz, run_underlying hu, Result.andThen_ok, hpl, h3', Sem.run_pure]
  simp only [execOp, ho, Sem.run_bind]
  have hrun' : (Instr.build t (parts.map fun x => match x with | (i, x) => (i, a.eval x))).run P w = .ok (.agg V') w := hrun
  rw [hrun']
  rfl

end
end Go.Ev

/-! Calls: what goes in, what comes back. -/
namespace Go.Ev
section
variable {P : Program} {X : Cfg} {R : Type} {w : World}
variable {g : Gh} {env : List D} {sto : Sto} {o : Oper} {a : Act} {k : St → Option R} {r : R} {cx : Cx}

/-- What a call leaves behind it. -/
def CallPost (X : Cfg) (g : Gh) (w : World) (K : D → Sto → Option R) (r : R) : Ending → World → Prop :=
  fun e w' => ∃ v d sto' g', e = .returned v ∧ K d sto' = some r ∧ Sim X g' w' [d] [v] sto' ∧ Ext g w g' w'

/-- A call, as an operation meets it: a function with a body, or one of the model's own. -/
def CallsOp (P : Program) (f : FuncId) (args : Array Value) (w : World) (Q : Ending → World → Prop) : Prop :=
  ((callFunc f args).run P w = .ok (.enter f args) w ∧ Calls P f args w Q) ∨ (∃ v w', (callFunc f args).run P w = .ok (.value v) w' ∧ Q (.returned v) w')

/-- The evaluator's way of calling is right. -/
def HcOk (P : Program) (X : Cfg) (hc : FuncId → List D → Sto → (D → Sto → Option R) → Option R) : Prop :=
  ∀ f args sto K r g w (vals : List Value), hc f args sto K = some r → Sim X g w args vals sto → CallsOp P f vals.toArray w (CallPost X g w K r)

theorem Sim.dropAll {g vals} : ∀ {H : List D} {HV : List Value}, env.length = vals.length → Sim X g w (env ++ H) (vals ++ HV) sto → Sim X g w env vals sto := by
  intro H HV hl h
  refine h.re_id hl ?_ ?_
  · intro t d v hd hv
    exact h.rep t d v (by rw [List.getElem?_append_left (List.getElem?_eq_some_iff.1 hd).1]; exact hd) (by rw [List.getElem?_append_left (List.getElem?_eq_some_iff.1 hv).1]; exact hv)
  · intro ℓ md ty l a len cap ho hmd
    cases ℓ with
    | env t j => exact ho.shift (List.getElem?_append_left ho.lt) (List.getElem?_append_left (hl ▸ ho.lt))
    | obj i => exact ho.not_obj.elim
    | cell i j => exact ho.of_slot (fun _ _ h => by cases h)

theorem argsOf_sound (want : List Nat) : ∀ (args : List Operand) (i : Nat) (env env' : List D) (ds H : List D) (HV : List Value) (g : Gh), argsOf env want i args = (ds, env') →
    env.length = a.tmps.toList.length → Sim X g w (env ++ H) (a.tmps.toList ++ HV) sto →
      ∃ g', Sim X g' w (env' ++ (H ++ ds)) (a.tmps.toList ++ (HV ++ args.map a.eval)) sto ∧ Ext g w g' w ∧ env'.length = a.tmps.toList.length
  | [], i, env, env', ds, H, HV, g, h, hl, hs => by
    cases h; exact ⟨g, by simpa using hs, .refl _ _, hl⟩
  | x :: rest, i, env, env', ds, H, HV, g, h, hl, hs => by
    have hr := (hs.dropAll hl).read x
    unfold argsOf at h
    simp only at h
    split at h
    · -- taken over
      rename_i hw
      generalize hrec : argsOf (left env x) want (i + 1) rest = p at h
      obtain ⟨ds', env2⟩ := p
      simp only at h
      cases h
      have htake : ∃ g', Sim X g' w (left env x ++ (H ++ [rd env x])) (a.tmps.toList ++ (HV ++ [a.eval x])) sto ∧ Ext g w g' w := by
        cases x with
        | tmp t =>
          by_cases ht : t < env.length
          · have hv : t < a.tmps.size := Nat.lt_of_lt_of_eq ht (hl.trans Array.length_toList)
            obtain ⟨g', h2, e, _⟩ := hs.hand (s := t) (d := env.getD t .any) (v := a.tmps.getD t undef) (by rw [List.getElem?_append_left ht]; exact rd_tmp_get ht)
              (by rw [List.getElem?_append_left (hl ▸ ht)]; simp [Array.getD, hv])
            refine ⟨g', ?_, e⟩
            rw [List.set_append_left _ _ ht, List.append_assoc, List.append_assoc] at h2
            exact h2
          · have e : rd env (.tmp t) = .any := getD_out (Nat.le_of_not_lt ht)
            have e2 : left env (.tmp t) = env := List.set_eq_of_length_le (Nat.le_of_not_lt ht)
            rw [e, e2, ← List.append_assoc, ← List.append_assoc]
            exact ⟨g, hs.push _ _ (.any _) rfl, .refl _ _⟩
        | const v => rw [← List.append_assoc, ← List.append_assoc]; exact ⟨g, hs.push _ _ hr (const_free v), .refl _ _⟩
        | func f => rw [← List.append_assoc, ← List.append_assoc]; exact ⟨g, hs.push _ _ hr rfl, .refl _ _⟩
        | global b => rw [← List.append_assoc, ← List.append_assoc]; exact ⟨g, hs.push _ _ hr rfl, .refl _ _⟩
      obtain ⟨g1, h1, e1⟩ := htake
      have hl2 : (left env x).length = a.tmps.toList.length := by rw [← hl]; cases x <;> simp [left]
      obtain ⟨g2, h3, e2, hl3⟩ := argsOf_sound want rest (i + 1) _ _ _ _ _ g1 hrec hl2 h1
      refine ⟨g2, ?_, e1.trans e2, hl3⟩
      simpa [List.append_assoc] using h3
    · rename_i hw
      generalize hrec : argsOf env want (i + 1) rest = p at h
      obtain ⟨ds', env2⟩ := p
      simp only at h
      cases h
      have h1 := hs.push _ _ hr.dup (dup_free _)
      rw [List.append_assoc, List.append_assoc] at h1
      obtain ⟨g2, h3, e2, hl3⟩ := argsOf_sound want rest (i + 1) _ _ _ _ _ g hrec hl h1
      refine ⟨g2, ?_, e2, hl3⟩
      simpa [List.append_assoc] using h3

theorem Sim.pushAll : ∀ {ds : List D} {vs : List Value} {env : List D} {vals : List Value}, Sim X g w env vals sto → ds.length = vs.length → (∀ (j : Nat) d v, ds[j]? = some d → vs[j]? = some v → RepV X g.φ g.G w d v ∧ d.free = true) →
    Sim X g w (env ++ ds) (vals ++ vs) sto
  | [], [], env, vals, h, _, _ => by simpa using h
  | [], _ :: _, _, _, _, h, _ => by cases h
  | _ :: _, [], _, _, _, h, _ => by cases h
  | d :: ds, v :: vs, env, vals, h, hl, hr => by
    obtain ⟨h1, h2⟩ := hr 0 d v rfl rfl
    have := Sim.pushAll (h.push d v h1 h2) (by simpa using hl) (fun j d v hd hv => hr (j + 1) d v (by simpa using hd) (by simpa using hv))
    simpa [List.append_assoc] using this

/-- The owners as the called function sees them: what is not handed over is nobody's. -/
def inner (g : Gh) (n : Nat) : Gh :=
  { g with κ := fun b => match g.κ b with
      | some (.env t j) => if t < n then none else some (.env (t - n) j)
      | x => x }

theorem inner_none {g : Gh} {n b : Nat} (h : g.κ b = none) : (inner g n).κ b = none := by simp [inner, h]

theorem Sim.enter {vals ds dv} (hl : env.length = vals.length) (h : Sim X g w (env ++ ds) (vals ++ dv) sto) : Sim X (inner g env.length) w ds dv sto := by
  have hocc : ∀ ℓ d v, Occ g.φ w ds dv sto ℓ d v → Occ g.φ w (env ++ ds) (vals ++ dv) sto (match ℓ with | .env t j => .env (env.length + t) j | ℓ => ℓ) d v := by
    intro ℓ d v ho
    cases ℓ with
    | env t j =>
      refine ho.shift (t' := env.length + t) ?_ ?_
      · rw [List.getElem?_append_right (by omega)]; congr 1; omega
      · rw [List.getElem?_append_right (by omega)]; congr 1; omega
    | obj i => exact ho.not_obj.elim
    | cell i j => exact ho.of_slot (fun _ _ h => by cases h)
  refine ⟨by have := h.len; simp at this; omega, ?_, h.slen, ?_, ?_, ?_, h.gdom⟩
  · intro t d v hd hv
    exact h.rep (env.length + t) d v (by rw [List.getElem?_append_right (by omega)]; rw [show env.length + t - env.length = t by omega]; exact hd)
      (by rw [List.getElem?_append_right (by omega)]; rw [show env.length + t - vals.length = t by omega]; exact hv)
  · intro i b cs hb hi
    obtain ⟨k, g0, cell⟩ := h.obj i b cs hb hi
    exact ⟨by simp [inner, k], g0, cell⟩
  · intro ℓ md t l a len cap ho hmd
    obtain ⟨k, gg, sp⟩ := h.own _ _ _ _ _ _ _ (hocc _ _ _ ho) hmd
    refine ⟨?_, gg, sp⟩
    cases ℓ with
    | env t j => simp only at k; simp [inner, k]
    | obj i => exact ho.not_obj.elim
    | cell i j => simp only at k; simp [inner, k]
  · intro b ℓ hb
    cases hk : g.κ b with
    | none => simp [inner, hk] at hb
    | some ℓ' => exact h.kdom b ℓ' hk

/-- The owners behind the call. -/
def outer (g g1 : Gh) (n : Nat) : Nat → Option Loc := fun b =>
  match g.κ b with
  | some (.env t j) => if t < n then some (.env t j) else (g1.κ b).map fun ℓ => match ℓ with | .env t j => .env (n + t) j | ℓ => ℓ
  | _ => (g1.κ b).map fun ℓ => match ℓ with | .env t j => .env (n + t) j | ℓ => ℓ

theorem Sim.back {vals ds dv d v sto1} {w1 : World} {g1 : Gh} (hl : env.length = vals.length) (h : Sim X g w (env ++ ds) (vals ++ dv) sto) (h1 : Sim X g1 w1 [d] [v] sto1)
    (e : Ext (inner g env.length) w g1 w1) : ∃ g2, Sim X g2 w1 (env ++ [d]) (vals ++ [v]) sto1 ∧ Ext g w g2 w1 := by
  have hinn : ∀ b t j, g.κ b = some (.env t j) → t < env.length → (inner g env.length).κ b = none := fun b t j hk ht => by simp [inner, hk, ht]
  have hk1 : ∀ b ℓ, g1.κ b = some ℓ → outer g g1 env.length b = some (match ℓ with | .env t j => .env (env.length + t) j | ℓ => ℓ) := by
    intro b ℓ hb
    unfold outer
    split
    · rename_i t j hk
      split
      · rename_i ht
        have := e.kdom b (h.kdom b _ hk) (hinn b t j hk ht)
        rw [this] at hb; cases hb
      · rw [hb]; rfl
    · rw [hb]; rfl
  have hocc1 : ∀ {j : Nat} {md : Md} {ty : Ty} {l : List ty.den} {u : Value}, Occ g1.φ w1 (env ++ [d]) (vals ++ [v]) sto1 (.env env.length j) (.sl md ty l) u → Occ g1.φ w1 [d] [v] sto1 (.env 0 j) (.sl md ty l) u := by
    intro j md ty l u ho
    refine ho.shift (t' := 0) ?_ ?_
    · simp
    · rw [hl]; simp
  let g2 : Gh := { φ := g1.φ, G := g1.G, κ := outer g g1 env.length }
  refine ⟨g2, ⟨by simp [hl], ?_, h1.slen, ?_, ?_, ?_, h1.gdom⟩, ⟨e.size, e.os, e.tape, e.output, fun b hb hn => e.blk b hb (inner_none hn), e.cell, e.gmono, fun b hb hn => e.gsame b hb (inner_none hn), ?_, e.φ⟩⟩
  · intro t d' v' hd hv
    rcases getElem?_snoc hd with ⟨ht, hd⟩ | ⟨rfl, rfl⟩
    · rw [List.getElem?_append_left (hl ▸ ht)] at hv
      have := h.rep t d' v' (by rw [List.getElem?_append_left ht]; exact hd) (by rw [List.getElem?_append_left (hl ▸ ht)]; exact hv)
      exact this.mono e.φ e.gmono e.cell
    · rw [hl] at hv; simp at hv; subst hv
      exact h1.rep 0 d' v rfl rfl
  · intro i b cs hb hi
    obtain ⟨k, g0, cell⟩ := h1.obj i b cs hb hi
    exact ⟨hk1 b _ k, g0, cell⟩
  · intro ℓ md ty l aa len cap ho hmd
    cases ℓ with
    | env t j =>
      by_cases ht : t < env.length
      · have ho' : Occ g.φ w (env ++ ds) (vals ++ dv) sto (.env t j) (.sl md ty l) (.slice (some aa) len cap) := by
          have := ho.shift (env' := env ++ ds) (vals' := vals ++ dv) (t' := t) (by rw [List.getElem?_append_left ht, List.getElem?_append_left ht]) (by rw [List.getElem?_append_left (hl ▸ ht), List.getElem?_append_left (hl ▸ ht)])
          generalize hℓ : Loc.env t j = ℓ at this ⊢
          cases this with
          | leaf hd hv => exact .leaf hd hv
          | agg hd hv hj he => exact .agg hd hv hj he
          | tup hd hv hj he => exact .tup hd hv hj he
          | cell => cases hℓ
        obtain ⟨k, gg, sp⟩ := h.own _ _ _ _ _ _ _ ho' hmd
        have hin := hinn _ _ _ k ht
        have hlt := h.kdom _ _ k
        have hblk := e.blk _ hlt hin
        refine ⟨by simp [g2, outer, k, ht], (e.gsame _ hlt hin).trans gg, fun jj h1 h2 => ?_⟩
        obtain ⟨⟨u, hu⟩, hf⟩ := sp jj h1 h2
        exact ⟨⟨u, by rw [World.cell?_of_block (w := w) (a := ⟨aa.block, aa.off + jj, none⟩) hblk]; exact hu⟩, by rw [World.frozen?_of_block (w := w) (a := ⟨aa.block, aa.off + jj, none⟩) hblk]; exact hf⟩
      · have he : t = env.length := by have := ho.lt; simp at this; omega
        subst he
        obtain ⟨k, gg, sp⟩ := h1.own _ _ _ _ _ _ _ (hocc1 ho) hmd
        exact ⟨by have := hk1 _ _ k; simpa using this, gg, sp⟩
    | obj i => exact ho.not_obj.elim
    | cell i j =>
      obtain ⟨k, gg, sp⟩ := h1.own _ _ _ _ _ _ _ (ho.of_slot (env' := [d]) (vals' := [v]) (fun _ _ h => by cases h)) hmd
      exact ⟨hk1 _ _ k, gg, sp⟩
  · intro b ℓ hb
    have hb' : outer g g1 env.length b = some ℓ := hb
    cases hk : g1.κ b with
    | some ℓ' => exact h1.kdom b ℓ' hk
    | none =>
      unfold outer at hb'
      split at hb'
      · rename_i t j hk2
        exact Nat.lt_of_lt_of_le (h.kdom b _ hk2) e.size
      · rw [hk] at hb'; cases hb'
  · intro b hb hn
    have := e.kdom b hb (inner_none hn)
    show outer g g1 env.length b = none
    simp [outer, hn, this]

/-- The operation 'call'. -/
theorem op_call {hc : FuncId → List D → Sto → (D → Sto → Option R) → Option R} (hok : HcOk P X hc) {fo : Operand} {args : Array Operand} {ats : Array TypeId} (ho : o.op = .call { callee := .value fo, args, argTypes := ats })
    (hs : Sim X g w env a.tmps.toList sto) {f : FuncId} {caps : List D} {want : List Nat} (hf : rd env fo = .fn f caps) {ds env' : List D} (hargs : argsOf env want 0 args.toList = (ds, env'))
    (h : (hc f (ds ++ caps.map D.dup) sto fun d sto' => k ⟨put env' o.dst d, sto'⟩) = some r) {next : Act → World → Prop} {Q : Exit → Act → World → Prop}
    (hn : ∀ v w' g' env' sto', k ⟨env', sto'⟩ = some r → Sim X g' w' env' (putV a.tmps.toList o.dst v) sto' → Ext g w g' w' → next (a.put o.dst v) w') : o.wp P a w next Q := by
  obtain ⟨cv, hfv, hcv⟩ : ∃ cv : Array Value, a.eval fo = .func (.func f) #[] cv ∧ (cv.size = caps.length ∧ ∀ (j : Nat) c, caps[j]? = some c → RepV X g.φ g.G w c (cv.getD j undef)) := by
    have := hs.read fo
    rw [hf] at this
    generalize hv : a.eval fo = v at this
    cases this with
    | fn hl hr => exact ⟨_, rfl, hl, hr⟩
  obtain ⟨g1, h1, e1, hl⟩ := argsOf_sound (a := a) want args.toList 0 env env' ds [] [] g hargs hs.len (by simpa using hs)
  simp only [List.nil_append] at h1
  have h2 := Sim.pushAll (ds := caps.map D.dup) (vs := cv.toList) h1 (by simp [hcv.1]) (fun j d v hd hv => by
    simp only [List.getElem?_map, Option.map_eq_some_iff] at hd
    obtain ⟨c, hc0, rfl⟩ := hd
    have := hcv.2 j c hc0
    have e : cv.getD j undef = v := by
      have hv' : cv[j]? = some v := by simpa using hv
      simp only [Array.getD_eq_getD_getElem?, hv']; rfl
    rw [e] at this
    exact ⟨(this.mono e1.φ e1.gmono e1.cell).dup, dup_free _⟩)
  rw [List.append_assoc, List.append_assoc] at h2
  have h3 := h2.enter hl
  have hcall := hok f _ sto _ r _ w _ h h3
  have hvals : (args.toList.map a.eval ++ cv.toList).toArray = args.map a.eval ++ cv := by simp
  rw [hvals] at hcall
  have hrun : (execOp a.eval o).run P w = (callFunc f (args.map a.eval ++ cv)).run P w := by
    simp [execOp, ho, resolve, hfv, Deferred.ofValue, invoke]
  have fin : ∀ (v : Value) (w' : World), CallPost X (inner g1 env'.length) w (fun d sto' => k ⟨put env' o.dst d, sto'⟩) r (.returned v) w' → next (a.put o.dst v) w' := by
    intro v w' hp
    obtain ⟨v', d, sto', g', hv, hk, h4, e4⟩ := hp
    cases hv
    obtain ⟨g2, h5, e5⟩ := h2.back hl h4 e4
    obtain ⟨g3, h6, e6, _⟩ := h5.lay o.dst
    exact hn v w' g3 _ sto' hk h6 (e1.trans (e5.trans e6))
  unfold Oper.wp
  rw [hrun]
  rcases hcall with ⟨hc1, hc2⟩ | ⟨v, w', hc1, hc2⟩
  · rw [hc1]
    refine hc2.mono (fun e w' hp => ?_)
    have hp' := hp
    obtain ⟨v', d, sto', g', hv, _⟩ := hp'
    subst hv
    exact fin v' w' hp
  · rw [hc1]
    exact fin v w' hc2

end
end Go.Ev

/-! The operation, the region, the code. -/
namespace Go.Ev
section
variable {P : Program} {X : Cfg} {R : Type} {w : World}
variable {g : Gh} {env : List D} {sto : Sto} {o : Oper} {a : Act} {k : St → Option R} {r : R} {cx : Cx}

/-- What an operation is to show: it goes on with a state that the evaluator goes on with. -/
def OpTo (P : Program) (X : Cfg) (o : Oper) (a : Act) (w : World) (g : Gh) (k : St → Option R) (r : R) : Prop :=
  ∀ (next : Act → World → Prop) (Q : Exit → Act → World → Prop),
    (∀ v w' g' env' sto', k ⟨env', sto'⟩ = some r → Sim X g' w' env' (putV a.tmps.toList o.dst v) sto' → Ext g w g' w' → next (a.put o.dst v) w') → o.wp P a w next Q

theorem OpOk.to (h : OpOk P X o a w g k r) : OpTo P X o a w g k r := fun _ _ hn => h.wp hn

theorem evOp_sound (hcx : CxOk P X cx) {hc : FuncId → List D → Sto → (D → Sto → Option R) → Option R} (hok : HcOk P X hc) {rest : List Oper}
    (hs : Sim X g w env a.tmps.toList sto) (h : evOp cx hc rest o ⟨env, sto⟩ k = some r) : OpTo P X o a w g k r := by
  unfold evOp at h
  split at h
  · rename_i x ho
    split at h
    · exact (op_move x (.inl ho) hs h).to
    · exact (op_copy x ho hs h).to
  · rename_i x ho
    exact (op_move x (.inr ho) hs h).to
  · rename_i c x y ho
    split at h
    · rename_i t hc0
      split at h
      · exact (op_pick c x y ho hs true hc0 h).to
      · exact (op_pick c x y ho hs false hc0 h).to
    · cases h
  · rename_i t ho
    split at h
    · cases h
    · rename_i e hne ht
      have hte := hcx.tab _ _ ht
      refine (op_alloc t ho hs hte ?_ h).to
      intro e0
      obtain ⟨d, sz, by_, ag, ty, z⟩ := e
      simp only at e0
      subst e0
      exact hne _ _ _ _ _ rfl
    · cases h
  · rename_i t x ho
    split at h
    · split at h
      · rename_i hf
        obtain ⟨hl, _, h1⟩ := fits_spec hf
        exact (op_box t x ho hs (by intro e; rw [e] at hl; simp at hl; omega) h).to
      · cases h
    · cases h
  · rename_i t parts ho
    split at h
    · rename_i ht
      split at h
      · rename_i hf
        exact (op_build hcx ho hs ht rfl hf h).to
      · cases h
    · cases h
  · rename_i t len parts ho
    split at h
    · rename_i ht
      split at h
      · rename_i he
        split at h
        · rename_i hf
          split at h
          · rename_i hd
            split at h
            · rename_i hle
              exact (op_buildSlice hcx ho hs ht rfl he rfl hf hd (Nat.le_of_ble_eq_true hle) h).to
            · cases h
          · cases h
        · cases h
      · cases h
    · cases h
  · rename_i t x ho
    split at h
    · rename_i e ht
      have hte := hcx.tab _ _ ht
      split at h
      · rename_i i off hx
        split at h
        · rename_i cs hi
          split at h
          · rename_i hle
            have hle := Nat.le_of_ble_eq_true hle
            split at h
            · rename_i hag hst hlf
              have h1 := hte.one hag
              have hget : cs[off]? = some (cs.getD off .any) := by simp [List.getD, show off < cs.length by omega]
              exact (op_loadTake t x ho hs hte hag hx hi hget hlf h).to
            · exact (op_load t x ho hs hte hx hi hle h).to
          · cases h
        · cases h
      · rename_i cs hx
        split at h
        · rename_i hle
          exact (op_loadBox t x ho hs hte hx (Nat.le_of_ble_eq_true hle) h).to
        · cases h
      · cases h
    · cases h
  · rename_i t x y ho
    split at h
    · rename_i e ht
      have hte := hcx.tab _ _ ht
      split at h
      · rename_i i off hx
        split at h
        · rename_i cs hi
          split at h
          · rename_i hle hf
            exact (op_store t x y ho hs hte hx hi (Nat.le_of_ble_eq_true hle) hf h).to
          · cases h
        · cases h
      · cases h
    · cases h
  · rename_i x ho
    split at h
    · rename_i i off hx
      exact (op_nilCheck x ho hs (.inl ⟨_, _, hx⟩) (by rw [hx]; exact h)).to
    · rename_i cs hx
      exact (op_nilCheck x ho hs (.inr (.inl ⟨_, hx⟩)) (by rw [hx]; exact h)).to
    · rename_i f cs hx
      exact (op_nilCheck x ho hs (.inr (.inr ⟨_, _, hx⟩)) (by rw [hx]; exact h)).to
    · cases h
  · rename_i op t x y yt ho
    obtain ⟨d, v, hk, hf, hr, hrun⟩ := binK_sound (P := P) hcx h (hs.read x) (hs.read y) x y rfl
    refine (opOk_pure hs v d ?_ hr hf hk).to
    simp only [execOp, ho]
    rw [Sem.run_bind, hrun]; rfl
  · rename_i op t x ho
    obtain ⟨d, v, hk, hf, hr, hrun⟩ := unK_sound (P := P) (w := w) h (hs.read x)
    exact (opOk_pure hs v d (by simp [execOp, ho, hrun]) hr hf hk).to
  · rename_i src dst x ho
    split at h
    · rename_i m l hsrc heq hx
      have heq' := Nat.eq_of_beq_eq_true heq
      subst heq'
      split at h
      · rename_i he
        split at h
        · exact (op_convMark hcx ho hs (by simp) hsrc rfl he rfl hx h).to
        · cases h
      · cases h
    · unfold convK at h
      split at h
      · rename_i hsrc hdst hx
        exact (op_convInt hcx ho hs hsrc hdst rfl hx h).to
      · rename_i hsrc hdst hx
        exact (op_convStr hcx ho hs hsrc hdst rfl hx h).to
      · rename_i hsrc hdst hx
        split at h
        · rename_i he
          exact (op_convToBytes hcx ho hs hsrc hdst rfl he rfl hx h).to
        · cases h
      · rename_i hsrc hdst hx
        split at h
        · rename_i he
          exact (op_convBytes hcx ho hs hsrc rfl hdst rfl he rfl (.inl ⟨_, hx⟩) h).to
        · cases h
      · rename_i hsrc hdst hx
        split at h
        · rename_i he
          exact (op_convBytes hcx ho hs hsrc rfl hdst rfl he rfl (.inr ⟨hx, rfl⟩) h).to
        · cases h
      · cases h
  · rename_i t x lo hi mx ho
    split at h
    · rename_i hty
      exact (op_slice hcx t x lo hi mx ho hs hty h).to
    · cases h
  · rename_i t x f ho
    split at h
    · rename_i ht
      split at h
      · rename_i fi hfi
        split at h
        · rename_i i off hz hx
          exact (op_fieldAddr hcx t x f ho hs ht rfl hfi (by intro e; rw [e] at hz; cases hz) (.inl ⟨_, _, hx, h⟩)).to
        · rename_i cs hz hx
          split at h
          · rename_i hle
            exact (op_fieldAddr hcx t x f ho hs ht rfl hfi (by intro e; rw [e] at hz; cases hz) (.inr ⟨_, hx, Nat.le_of_ble_eq_true hle, h⟩)).to
          · cases h
        · cases h
      · cases h
    · cases h
  · rename_i t x f ho
    split at h
    · rename_i ht
      split at h
      · rename_i hfi hx
        split at h
        · rename_i hle
          exact (op_field hcx t x f ho hs ht rfl hfi hx (Nat.le_of_ble_eq_true hle) h).to
        · cases h
      · cases h
    · cases h
  · rename_i t x ix ho
    split at h
    · rename_i ht hx hi
      split at h
      · rename_i hty
        obtain ⟨e, he, hk⟩ := Option.bind_eq_some_iff.1 h
        exact (op_indexSl hcx t x ix ho hs hx hty hi he hk).to
      · cases h
    · rename_i ht hx hi
      split at h
      · rename_i hte
        split at h
        · rename_i hb
          exact (op_indexArr hcx t x ix ho hs ht rfl hte hx hi (of_decide_eq_true hb) h).to
        · cases h
      · cases h
    · cases h
  · rename_i t x ix ho
    split at h
    · rename_i ht hx hi
      obtain ⟨b, hb, hk⟩ := Option.bind_eq_some_iff.1 h
      exact (op_indexStr hcx t x ix ho hs ht rfl hx hi hb hk).to
    · rename_i ht hx hi
      split at h
      · rename_i hte
        split at h
        · rename_i hb hle
          exact (op_indexAgg hcx t x ix ho hs ht rfl hte hx hi (of_decide_eq_true hb) (Nat.le_of_ble_eq_true hle) h).to
        · cases h
      · cases h
    · cases h
  · rename_i x i ho
    split at h
    · rename_i cs hx
      split at h
      · rename_i c hc0
        split at h
        · rename_i hlf
          exact (op_extract ho hs hx hc0 (.inr hlf) h).to
        · have hr := hs.read x
          rw [hx] at hr
          generalize hv : a.eval x = v at hr
          cases hr with
          | tup hl hcr =>
            rename_i vs
            have hci := hcr i c hc0
            have hilt : i < vs.size := by rw [hl]; exact (List.getElem?_eq_some_iff.1 hc0).1
            exact (opOk_pure hs (vs.getD i undef) _ (by simp [execOp, ho, hv, Instr.extract, hilt]) hci.dup (dup_free _) h).to
      · cases h
    · cases h
  · rename_i f first caps ho
    split at h
    · rename_i hfirst
      have e : first = #[] := by apply Array.ext'; exact hfirst
      subst e
      exact (op_makeFunc ho hs h).to
    · cases h
  · rename_i args ats ho
    split at h
    · rename_i x t hargs hats
      have ho' : o.op = .call { callee := .builtin .len, args := #[x], argTypes := #[t] } := by
        rw [ho]
        have e1 : args = #[x] := by apply Array.ext'; exact hargs
        have e2 : ats = #[t] := by apply Array.ext'; exact hats
        rw [e1, e2]
      split at h
      · rename_i ht hx
        exact (op_len hcx ho' hs ht (.inl ⟨rfl, _, hx, rfl⟩) h).to
      · rename_i ht hx
        exact (op_len hcx ho' hs ht (.inr (.inl ⟨_, rfl, by rw [hx]; rfl, by rw [hx]; intro s h; cases h⟩)) h).to
      · rename_i ht hx
        exact (op_len hcx ho' hs ht (.inr (.inl ⟨_, rfl, by rw [hx]; rfl, by rw [hx]; intro s h; cases h⟩)) h).to
      · rename_i ht
        split at h
        · rename_i hle
          exact (op_len hcx ho' hs ht (.inr (.inr ⟨_, _, rfl, rfl, Nat.le_of_ble_eq_true hle⟩)) h).to
        · cases h
      · cases h
    · cases h
  · rename_i args ats ho
    split at h
    · rename_i x y t t2 hargs hats
      have ho' : o.op = .call { callee := .builtin .append, args := #[x, y], argTypes := #[t, t2] } := by
        rw [ho]
        have e1 : args = #[x, y] := by apply Array.ext'; exact hargs
        have e2 : ats = #[t, t2] := by apply Array.ext'; exact hats
        rw [e1, e2]
      have fin : ∀ d2, P.underlying t2 = some d2 → ((∃ e2, d2 = .slice e2) ∨ d2 = .string) → appendK cx t (rd env x) (rd env y) (fun d => k ⟨put (left env x) o.dst d, sto⟩) = some r → OpTo P X o a w g k r := by
        intro d2 ht2 hd2 h
        obtain ⟨g1, h1, e1, eφ, eG⟩ := hs.take x
        have hy : RepV X g1.φ g1.G w (rd env y) (a.eval y) := (hs.read y).mono e1.φ e1.gmono e1.cell
        obtain ⟨d, hk, v, w', g2, hrun, h2, e2⟩ := appendK_sound (P := P) (ty := o.type) hcx h h1 hy ht2 hd2
        obtain ⟨g3, h3, e3, _⟩ := h2.lay o.dst
        refine OpOk.to ⟨v, w', g3, _, _, .inl ?_, hk, h3, e1.trans (e2.trans e3)⟩
        simp [execOp, ho', resolve, invoke, builtin, hrun]
      split at h
      · rename_i ht2
        exact fin _ (desc_slice hcx ht2 rfl) (.inl ⟨_, rfl⟩) h
      · rename_i ht2
        exact fin _ (desc_str hcx ht2 rfl) (.inr rfl) h
      · cases h
    · cases h
  · rename_i fo args ats ho
    split at h
    · rename_i f caps hf
      generalize hargs : argsOf env ((look cx.want f).getD []) 0 args.toList = p at h
      obtain ⟨ds, env'⟩ := p
      intro next Q hn
      exact op_call hok ho hs hf hargs h hn
    · cases h
  · cases h

end
end Go.Ev

/-! Regions and code. -/
namespace Go.Ev
section
variable {P : Program} {X : Cfg} {R : Type} {cx : Cx}

theorem Sim.setSame {g : Gh} {w : World} {env : List D} {vals : List Value} {sto : Sto} (h : Sim X g w env vals sto) {t : Nat} {d : D} {v : Value} (hv : vals[t]? = some v) (hr : RepV X g.φ g.G w d v) (hf : d.free = true) :
    Sim X g w (env.set t d) vals sto := by
  have h1 := h.set t d v hr hf
  have e : vals.set t v = vals := by
    apply List.ext_getElem?; intro i
    by_cases e : t = i
    · subst e; rw [List.getElem?_set_self (List.getElem?_eq_some_iff.1 hv).1, hv]
    · rw [List.getElem?_set_ne e]
  rw [e] at h1; exact h1

theorem Sim.getB {g : Gh} {w : World} {env : List D} {sto : Sto} {a : Act} (h : Sim X g w env a.tmps.toList sto) {t : Nat} {d : D} (hd : env.getD t .any = d) (hne : d ≠ .any) :
    ∃ v, a.tmps[t]? = some v ∧ RepV X g.φ g.G w d v := by
  have ht : t < env.length := by
    rcases Nat.lt_or_ge t env.length with h' | h'
    · exact h'
    · rw [getD_out h'] at hd; exact absurd hd.symm hne
  have hv : t < a.tmps.size := Nat.lt_of_lt_of_eq ht (h.len.trans Array.length_toList)
  refine ⟨a.tmps[t], by simp [hv], ?_⟩
  have := h.rep t _ a.tmps[t] (rd_tmp_get ht) (by simp [hv])
  rw [hd] at this; exact this

theorem gOp_sound (hcx : CxOk P X cx) {hc : FuncId → List D → Sto → (D → Sto → Option R) → Option R} (hok : HcOk P X hc) {ops : Array Oper} {o : Oper} {Q : Exit → Act → World → Prop} {next : Act → World → Prop} {k : St → Option R} {r : R}
    {env : List D} {sto : Sto} {a : Act} {w : World} {g : Gh} (h : gOp cx hc ops o ⟨env, sto⟩ k = some r) (hs : Sim X g w env a.tmps.toList sto) (hd : a.defers = [])
    (hn : ∀ a' w' g' env' sto', k ⟨env', sto'⟩ = some r → Sim X g' w' env' a'.tmps.toList sto' → Ext g w g' w' → a'.defers = [] → next a' w') :
    if Region.wanted o (yielded ops a.tmps) then o.wp P a w next Q ∨ (o.asks P a w ∧ LetsOut Q) else next (a.put o.dst undef) w := by
  have run : ∀ env, evOp cx hc ops.toList o ⟨env, sto⟩ k = some r → Sim X g w env a.tmps.toList sto → o.wp P a w next Q := by
    intro env h hs
    refine evOp_sound hcx hok hs h _ _ (fun v w' g' env' sto' hk hs' he => ?_)
    rw [← Act.put_toList] at hs'
    exact hn _ w' g' env' sto' hk hs' he (by rw [Ev.Act.put_defers]; exact hd)
  have skip : ∀ env, k ⟨put env o.dst (.tup []), sto⟩ = some r → Sim X g w env a.tmps.toList sto → next (a.put o.dst undef) w := by
    intro env h hs
    have h1 := hs.put o.dst (.tup []) undef (.tup rfl (fun j c hj => by simp at hj)) rfl
    rw [← Act.put_toList] at h1
    exact hn _ w g _ sto h h1 (.refl _ _) (by rw [Ev.Act.put_defers]; exact hd)
  unfold gOp guardK at h
  split at h
  · rename_i hg
    rw [if_pos (by simp [Region.wanted, hg])]
    exact .inl (run env h hs)
  · rename_i j want hg
    split at h
    · rename_i d hdst
      have hy : ∀ b : Bool, a.tmps[d]? = some (.bool b) → yielded ops a.tmps j = some b := by
        intro b hb
        unfold dstOf at hdst
        simp [yielded, hdst, hb]
      have hset : ∀ b : Bool, env.getD d .any = .bool b → Sim X g w (env.set d (.bool b)) a.tmps.toList sto ∧ yielded ops a.tmps j = some b := by
        intro b hb
        obtain ⟨v, hv, hr⟩ := hs.getB hb (by intro h; cases h)
        have hvb := rep_bool hr
        subst hvb
        exact ⟨hs.setSame (by simpa using hv) (.bool b) rfl, hy b hv⟩
      split at h
      · rename_i b hb
        split at h
        · obtain ⟨h1, h2⟩ := hset true hb
          split at h
          · rw [if_pos (by simp [Region.wanted, hg, h2])]; exact .inl (run _ h h1)
          · rw [if_neg (by simp [Region.wanted, hg, h2])]; exact skip _ h h1
        · obtain ⟨h1, h2⟩ := hset false hb
          split at h
          · rw [if_neg (by simp [Region.wanted, hg, h2])]; exact skip _ h h1
          · rw [if_pos (by simp [Region.wanted, hg, h2])]; exact .inl (run _ h h1)
      · rename_i hb
        obtain ⟨v, hv, hr⟩ := hs.getB hb (by intro h; cases h)
        have hy2 : yielded ops a.tmps j = none := by
          unfold dstOf at hdst
          cases hr with
          | tup hl _ => simp [yielded, hdst, hv]
        rw [if_neg (by simp [Region.wanted, hg, hy2])]
        exact skip _ h hs
      · cases h
    · cases h

theorem evOps_sound (hcx : CxOk P X cx) {hc : FuncId → List D → Sto → (D → Sto → Option R) → Option R} (hok : HcOk P X hc) {ops : Array Oper} {Q : Exit → Act → World → Prop} {k : St → Option R} {r : R} :
    ∀ (rest : List Oper) (env : List D) (sto : Sto) (a : Act) (w : World) (g : Gh), evOps cx hc ops rest ⟨env, sto⟩ k = some r → Sim X g w env a.tmps.toList sto → a.defers = [] →
      (∀ a' w' g' env' sto', k ⟨env', sto'⟩ = some r → Sim X g' w' env' a'.tmps.toList sto' → Ext g w g' w' → a'.defers = [] → Q .normal a' w') → wpList P ops Q rest a w
  | [], env, sto, a, w, g, h, hs, hd, hq => hq a w g env sto h hs (.refl _ _) hd
  | o :: rest, env, sto, a, w, g, h, hs, hd, hq => by
    unfold wpList
    exact gOp_sound hcx hok h hs hd (fun a' w' g' env' sto' hk hs' he hd' => evOps_sound hcx hok rest env' sto' a' w' g' hk hs' hd' (fun a2 w2 g2 env2 sto2 hk2 hs2 he2 hd2 => hq a2 w2 g2 env2 sto2 hk2 hs2 (he.trans he2) hd2))

/-- What code is to show behind it. -/
def CPost (X : Cfg) (g : Gh) (w : World) (k : Exit → St → Option R) (r : R) : Exit → Act → World → Prop :=
  fun e a' w' => ∃ env sto g', k e ⟨env, sto⟩ = some r ∧ Sim X g' w' env a'.tmps.toList sto ∧ Ext g w g' w' ∧ a'.defers = []

/-- The contract of a loop is what the rounds come to. -/
def LOk (cx : Cx) (hc : (R : Type) → FuncId → List D → Sto → (D → Sto → Option R) → Option R) (keep : List (Nat × LH)) (c : Code) : Prop :=
  ∀ lh lc, (firstRegion c).bind (look keep) = some lh → lh.con = some lc → ∀ (R : Type) (st : St) (n0 : Nat) (k : Exit → St → Option R) (r : R), lc R (norm lh n0 st) k = some r →
    ∃ n, loopN (fun st k => evCode cx (hc R) keep c st k) (norm lh n0) k n (norm lh n0 st) = some r

def Wk (d d' : D) : Prop := d' = d ∨ d' = .any ∨ ∃ s : Sh, d' = s.on d

theorem roD_rep {φ G} {w : World} (t : Ty) {d : D} {v : Value} (h : RepV X φ G w d v) : RepV X φ G w (roD t d) v := by
  unfold roD
  split
  · cases h; exact .slNil (by decide)
  · exact h.dup1
  · exact h.dup1
  · exact h

theorem not_keeps {md : Md} {n cap : Nat} (h : md.keeps n cap) (h1 : md ≠ .own) (h2 : md ≠ .oc) : False := by
  rcases h with e | ⟨e, _⟩
  · exact h1 e
  · exact h2 e

theorem roD_own {t : Ty} {d : D} {md : Md} {n cap : Nat} (hmd : md.keeps n cap) {ty : Ty} {l : List ty.den} (h : roD t d = .sl md ty l) : d = .sl md ty l := by
  unfold roD at h
  split at h
  · cases h; exact (not_keeps hmd (by decide) (by decide)).elim
  · cases h; exact (not_keeps hmd (by decide) (by decide)).elim
  · cases h; exact (not_keeps hmd (by decide) (by decide)).elim
  · exact h

theorem roL_length : ∀ (l : List (Option Ty)) (ds : List D), (roL l ds).length = ds.length
  | [], ds => by cases ds <;> rfl
  | some _ :: _, [] => rfl
  | none :: _, [] => rfl
  | some t :: r, d :: ds => by simp [roL, roL_length r ds]
  | none :: r, d :: ds => by simp [roL, roL_length r ds]

theorem roL_get : ∀ (l : List (Option Ty)) (ds : List D) (j : Nat) c', (roL l ds)[j]? = some c' → ∃ c, ds[j]? = some c ∧ (c' = c ∨ ∃ t, c' = roD t c)
  | [], ds, j, c', h => by cases ds <;> exact ⟨c', h, .inl rfl⟩
  | some _ :: _, [], j, c', h => by simp [roL] at h
  | none :: _, [], j, c', h => by simp [roL] at h
  | some t :: r, d :: ds, 0, c', h => by simp [roL] at h; exact ⟨d, rfl, .inr ⟨t, h.symm⟩⟩
  | none :: r, d :: ds, 0, c', h => by simp [roL] at h; exact ⟨d, rfl, .inl h.symm⟩
  | some t :: r, d :: ds, j + 1, c', h => by simp [roL] at h; simpa using roL_get r ds j c' h
  | none :: r, d :: ds, j + 1, c', h => by simp [roL] at h; simpa using roL_get r ds j c' h

theorem rep_aggs {φ G} {w : World} {ds : List D} {v : Value} (h : RepV X φ G w (.agg ds) v) : ∃ vs, v = .agg vs ∧ vs.size = ds.length ∧ ∀ (j : Nat) c, ds[j]? = some c → RepV X φ G w c (vs.getD j undef) := by
  cases h with
  | agg hl hr => exact ⟨_, rfl, hl, hr⟩

theorem sh_rep {φ G} {w : World} (s : Sh) {d : D} {v : Value} (h : RepV X φ G w d v) : RepV X φ G w (s.on d) v := by
  unfold Sh.on
  split
  · obtain ⟨vs, rfl, hl, hr⟩ := rep_aggs h
    refine .agg (by rw [roL_length]; exact hl) fun j c' hj => ?_
    obtain ⟨c, hc, e | ⟨t, e⟩⟩ := roL_get _ _ j c' hj
    · subst e; exact hr j c' hc
    · subst e; exact roD_rep t (hr j c hc)
  · exact h
  · exact h
  · cases h; exact .slNil (by decide)
  · exact h
  · cases h; exact .slNil (by decide)
  · exact h.dup1
  · exact h.dup1
  · exact h
  · cases h; exact .slNil (by decide)
  · exact rep_oc (.inl rfl) h
  · exact rep_oc (.inr rfl) h
  · exact h

theorem wk_rep {φ G} {w : World} {d d' : D} (hw : Wk d d') {v : Value} (h : RepV X φ G w d v) : RepV X φ G w d' v := by
  rcases hw with rfl | rfl | ⟨s, rfl⟩
  · exact h
  · exact .any v
  · exact sh_rep s h

theorem cap_full {φ G} {w : World} {t : Ty} {l : List t.den} {a : Option Addr} {len cap : Nat} (h : RepV X φ G w (.sl .cap t l) (.slice a len cap)) : cap = l.length := by
  rcases rep_slice_inv h with ⟨e0, _, _, e, _⟩ | ⟨e0, _, _, _, e, _⟩ | ⟨_, _, _, _, _, _, e, _⟩
  · subst e0; exact e
  · subst e0; exact e (.inl rfl)
  · exact e rfl

/-- What is owned in a weaker shape was owned before. -/
theorem wk_own {φ G} {w : World} {d d' : D} (hw : Wk d d') {v : Value} (h : RepV X φ G w d v) : d' = d ∨
    ((∀ md ty l a len cap, d' = .sl md ty l → v = .slice (some a) len cap → md.keeps l.length cap → d = .sl .own ty l) ∧
      (∀ cs', d' = .agg cs' → ∃ cs, d = .agg cs ∧ ∀ (j : Nat) (md : Md) (n cap : Nat) ty l, md.keeps n cap → cs'[j]? = some (.sl md ty l) → cs[j]? = some (.sl md ty l)) ∧ (∀ cs, d' ≠ .tup cs)) := by
  have low : ∀ {t : Ty} {l : List t.den} {md ty l' a len cap}, D.sl .ro t l = .sl md ty l' → v = .slice (some a) len cap → md.keeps l'.length cap → d = .sl .own ty l' := fun h _ hk => by
    cases h; exact (not_keeps hk (by decide) (by decide)).elim
  rcases hw with rfl | rfl | ⟨s, rfl⟩
  · exact .inl rfl
  · exact .inr ⟨(fun _ _ _ _ _ _ h => by cases h), (fun _ h => by cases h), (fun _ h => by cases h)⟩
  · unfold Sh.on
    split
    · refine .inr ⟨(fun _ _ _ _ _ _ h => by cases h), (fun cs' h => ?_), (fun _ h => by cases h)⟩
      cases h
      refine ⟨_, rfl, fun j md n cap ty l hk hj => ?_⟩
      obtain ⟨c, hc, e | ⟨t, e⟩⟩ := roL_get _ _ j _ hj
      · subst e; exact hc
      · rw [hc, roD_own hk e.symm]
    · exact .inl rfl
    · exact .inl rfl
    · refine .inr ⟨fun _ _ _ _ _ _ _ hv => ?_, (fun _ h => by cases h), (fun _ h => by cases h)⟩
      cases h; cases hv
    · exact .inl rfl
    · exact .inr ⟨fun _ _ _ _ _ _ e hv hk => low e hv hk, (fun _ h => by cases h), (fun _ h => by cases h)⟩
    · exact .inr ⟨fun _ _ _ _ _ _ e hv hk => low e hv hk, (fun _ h => by cases h), (fun _ h => by cases h)⟩
    · exact .inr ⟨fun _ _ _ _ _ _ e hv hk => low e hv hk, (fun _ h => by cases h), (fun _ h => by cases h)⟩
    · exact .inl rfl
    · refine .inr ⟨fun _ _ _ _ _ _ _ hv => ?_, (fun _ h => by cases h), (fun _ h => by cases h)⟩
      cases h; cases hv
    · refine .inr ⟨fun _ _ _ _ _ _ e _ _ => ?_, (fun _ h => by cases h), (fun _ h => by cases h)⟩
      cases e; rfl
    · refine .inr ⟨fun _ _ _ _ _ _ e hv hk => ?_, (fun _ h => by cases h), (fun _ h => by cases h)⟩
      cases e; subst hv
      have := cap_full h
      rcases hk with e | ⟨_, hlt⟩
      · cases e
      · omega
    · exact .inl rfl

/-- Slots and objects in weaker shapes. -/
theorem Sim.weaken {g : Gh} {w : World} {env env' : List D} {vals : List Value} {sto sto' : Sto} (h : Sim X g w env vals sto) (hl : env'.length = env.length)
    (he : ∀ (t : Nat) d', env'[t]? = some d' → ∃ d, env[t]? = some d ∧ Wk d d') (hsl : sto'.length = sto.length)
    (hso : ∀ (i : Nat) cs', sto'[i]? = some cs' → ∃ cs, sto[i]? = some cs ∧ ∀ (j : Nat) d', cs'[j]? = some d' → ∃ d, cs[j]? = some d ∧ Wk d d') : Sim X g w env' vals sto' := by
  have hobj : ∀ (i : Nat) b cs', g.φ[i]? = some b → sto'[i]? = some cs' → SimO X g w i b cs' := by
    intro i b cs' hb hi
    obtain ⟨cs, hi0, hcs⟩ := hso i cs' hi
    obtain ⟨k, g0, cell⟩ := h.obj i b cs hb hi0
    refine ⟨k, g0, fun j d' hj => ?_⟩
    obtain ⟨d, hd, hw⟩ := hcs j d' hj
    obtain ⟨v, hv, hf, hr⟩ := cell j d hd
    exact ⟨v, hv, hf, wk_rep hw hr⟩
  refine ⟨hl.trans h.len, fun t d' v hd hv => ?_, by rw [hsl]; exact h.slen, hobj, ?_, h.kdom, h.gdom⟩
  · obtain ⟨d, hd0, hw⟩ := he t d' hd
    exact wk_rep hw (h.rep t d v hd0 hv)
  · intro ℓ md ty l a len cap ho hmd
    suffices ho' : ∃ md' : Md, md'.keeps l.length cap ∧ Occ g.φ w env vals sto ℓ (.sl md' ty l) (.slice (some a) len cap) by
      obtain ⟨md', hk, ho'⟩ := ho'
      exact h.own _ md' _ _ _ _ _ ho' hk
    generalize hx : D.sl md ty l = x at ho
    generalize hy : Value.slice (some a) len cap = y at ho
    cases ho with
    | leaf hd hv =>
      obtain ⟨d, hd0, hw⟩ := he _ _ hd
      rcases wk_own hw (h.rep _ d _ hd0 hv) with e | ⟨h1, _⟩
      · subst hx; subst hy; exact ⟨md, hmd, .leaf (by rw [hd0, e]) hv⟩
      · have := h1 _ _ _ _ _ _ hx.symm hy.symm hmd
        subst hy; exact ⟨.own, .inl rfl, .leaf (by rw [hd0, this]) hv⟩
    | agg hd hv hj he' =>
      obtain ⟨d, hd0, hw⟩ := he _ _ hd
      rcases wk_own hw (h.rep _ d _ hd0 hv) with e | ⟨_, h2, _⟩
      · subst hx; subst hy; rw [← e] at hd0; exact ⟨md, hmd, .agg hd0 hv hj he'⟩
      · obtain ⟨cs, hcs, hown⟩ := h2 _ rfl
        subst hcs; subst hx; subst hy
        exact ⟨md, hmd, .agg hd0 hv (hown _ md _ _ _ _ hmd hj) he'⟩
    | tup hd hv hj he' =>
      obtain ⟨d, hd0, hw⟩ := he _ _ hd
      rcases wk_own hw (h.rep _ d _ hd0 hv) with e | ⟨_, _, h2⟩
      · subst hx; subst hy; rw [← e] at hd0; exact ⟨md, hmd, .tup hd0 hv hj he'⟩
      · exact absurd rfl (h2 _)
    | cell hi hb hj hv =>
      obtain ⟨cs, hi0, hcs⟩ := hso _ _ hi
      obtain ⟨d, hd0, hw⟩ := hcs _ _ hj
      obtain ⟨v, hv0, _, hr⟩ := (h.obj _ _ cs hb hi0).cell _ d hd0
      rw [hv0] at hv; cases hv
      rcases wk_own hw hr with e | ⟨h1, _⟩
      · subst hx; subst hy; exact ⟨md, hmd, .cell hi0 hb (by rw [hd0, e]) hv0⟩
      · have := h1 _ _ _ _ _ _ hx.symm hy.symm hmd
        subst hy; exact ⟨.own, .inl rfl, .cell hi0 hb (by rw [hd0, this]) hv0⟩

end
end Go.Ev

/-! Operations that may change places: what each reads, lays and leaves. No world in sight. -/
namespace Go.Ev
section
variable {R : Type} {cx : Cx}

def Chg (S : List Nat) (env env' : List D) : Prop := env'.length = env.length ∧ ∀ t, t ∉ S → env'[t]? = env[t]?

theorem Chg.refl (S : List Nat) (env : List D) : Chg S env env := ⟨rfl, fun _ _ => rfl⟩
theorem Chg.trans {S : List Nat} {a b c : List D} (h : Chg S a b) (k : Chg S b c) : Chg S a c := ⟨k.1.trans h.1, fun t ht => (k.2 t ht).trans (h.2 t ht)⟩
theorem Chg.mono {S S' : List Nat} {a b : List D} (h : Chg S a b) (hs : ∀ t, t ∈ S → t ∈ S') : Chg S' a b := ⟨h.1, fun t ht => h.2 t (fun h' => ht (hs t h'))⟩
theorem Chg.set {S : List Nat} {t : Nat} (ht : t ∈ S) (env : List D) (d : D) : Chg S env (env.set t d) :=
  ⟨by simp, fun s hs => List.getElem?_set_ne (fun e => hs (by rw [← e]; exact ht))⟩

theorem rd_set {env : List D} {t : Nat} {d : D} {x : Operand} (h : t ∉ tmpOf x) : rd (env.set t d) x = rd env x := by
  cases x with
  | tmp s => have hne : t ≠ s := fun e => h (by simp [tmpOf, e]); simp [rd, List.getD, List.getElem?_set_ne hne]
  | _ => rfl

theorem left_set {env : List D} {t : Nat} {d : D} {x : Operand} (h : t ∉ tmpOf x) : left (env.set t d) x = (left env x).set t d := by
  cases x with
  | tmp s =>
    have hne : t ≠ s := fun e => h (by simp [tmpOf, e])
    have := rd_set (env := env) (d := d) h
    simp only [rd] at this
    simp only [left, this]
    exact List.set_comm _ _ hne
  | _ => rfl

theorem put_set {env : List D} {t : Nat} {d v : D} {o : Option Tmp} (h : t ∉ dstT o) : put (env.set t d) o v = (put env o v).set t d := by
  cases o with
  | none => rfl
  | some s => have hne : t ≠ s := fun e => h (by simp [dstT, e]); exact List.set_comm _ _ hne

theorem Chg.left {S : List Nat} {x : Operand} (h : ∀ t, t ∈ tmpOf x → t ∈ S) (env : List D) : Chg S env (left env x) := by
  cases x with
  | tmp s => exact .set (h s (by simp [tmpOf])) _ _
  | _ => exact .refl _ _

theorem Chg.put {S : List Nat} {o : Option Tmp} (h : ∀ t, t ∈ dstT o → t ∈ S) (env : List D) (v : D) : Chg S env (put env o v) := by
  cases o with
  | none => exact .refl _ _
  | some s => exact .set (h s (by simp [dstT])) _ _

/-- What comes of it is one state, or none. -/
def NF (S : List Nat) (calm : Bool) (st : St) (X : (St → Option R) → Option R) : Prop :=
  ∃ s : Option St, (∀ k, X k = s.bind k) ∧ ∀ st', s = some st' → Chg S st.env st'.env ∧ (calm = true → st'.sto = st.sto)

structure OpFoot (cx : Cx) (hc : FuncId → List D → Sto → (D → Sto → Option R) → Option R) (all : List Oper) (o : Oper) (f : Foot) : Prop where
  nf : ∀ st, NF (dstT o.dst ++ f.wr) f.calm st (evOp cx hc all o st)
  loc : ∀ (t : Nat) d env sto k, t ∉ f.rd → t ∉ dstT o.dst → t ∉ f.wr → evOp cx hc all o ⟨env.set t d, sto⟩ k = evOp cx hc all o ⟨env, sto⟩ (fun st' => k ⟨st'.env.set t d, st'.sto⟩)
  sf : f.apart = true → ∀ env sto sto' k, evOp cx hc all o ⟨env, sto'⟩ k = evOp cx hc all o ⟨env, sto⟩ (fun st' => k ⟨st'.env, sto'⟩)

def Bnd (V : (D → Option R) → Option R) : Prop := ∃ s : Option D, ∀ k, V k = s.bind k

theorem Bnd.none : Bnd (R := R) fun _ => none := ⟨.none, fun _ => rfl⟩
theorem Bnd.pure (d : D) : Bnd (R := R) fun k => k d := ⟨some d, fun _ => rfl⟩

variable {hc : FuncId → List D → Sto → (D → Sto → Option R) → Option R} {all : List Oper} {o : Oper} {f : Foot}

/-- The value comes of the slots that are read; it is laid into its slot; beside that, a slot may be left. -/
theorem foot_val (V : List D → (D → Option R) → Option R) (L : List D → List D) (hev : ∀ env sto k, evOp cx hc all o ⟨env, sto⟩ k = V env (fun d => k ⟨put (L env) o.dst d, sto⟩)) (hb : ∀ env, Bnd (V env))
    (hl : ∀ env (t : Nat) d, t ∉ f.rd → V (env.set t d) = V env) (hL : ∀ env, Chg f.wr env (L env)) (hLs : ∀ env (t : Nat) d, t ∉ f.rd → t ∉ f.wr → L (env.set t d) = (L env).set t d) : OpFoot cx hc all o f := by
  refine ⟨fun st => ?_, fun t d env sto k h1 h2 h3 => ?_, fun _ env sto sto' k => ?_⟩
  · obtain ⟨s, hs⟩ := hb st.env
    refine ⟨s.map fun d => ⟨put (L st.env) o.dst d, st.sto⟩, fun k => ?_, fun st' h => ?_⟩
    · rw [show st = ⟨st.env, st.sto⟩ from rfl, hev, hs]; cases s <;> rfl
    · cases s with
      | none => cases h
      | some d =>
        cases h
        exact ⟨((hL st.env).mono (fun t h => List.mem_append_right _ h)).trans (.put (fun t h => List.mem_append_left _ h) _ _), fun _ => rfl⟩
  · rw [hev, hev, hl env t d h1, hLs env t d h1 h3]
    simp only [put_set h2]
  · rw [hev, hev]

theorem foot_plain (V : List D → (D → Option R) → Option R) (hev : ∀ env sto k, evOp cx hc all o ⟨env, sto⟩ k = V env (fun d => k ⟨put env o.dst d, sto⟩)) (hb : ∀ env, Bnd (V env))
    (hl : ∀ env (t : Nat) d, t ∉ f.rd → V (env.set t d) = V env) : OpFoot cx hc all o f :=
  foot_val V id hev hb hl (fun _ => .refl _ _) (fun _ _ _ _ _ => rfl)

theorem foot_left (V : List D → (D → Option R) → Option R) (x : Operand) (hx : ∀ t, t ∈ tmpOf x → t ∈ f.wr) (hev : ∀ env sto k, evOp cx hc all o ⟨env, sto⟩ k = V env (fun d => k ⟨put (left env x) o.dst d, sto⟩)) (hb : ∀ env, Bnd (V env))
    (hl : ∀ env (t : Nat) d, t ∉ f.rd → V (env.set t d) = V env) : OpFoot cx hc all o f :=
  foot_val V (left · x) hev hb hl (fun env => .left hx env) (fun env t d _ h => left_set (fun h' => h (hx t h')))

theorem binK_bnd (op : BinOp) (t : TypeId) (lit : Bool) (x y : D) : Bnd (R := R) (binK cx op t lit x y) := by
  have ifk : ∀ (kx ky : IntKind) (d : D), Bnd (R := R) fun k => if kx = ky then k d else none := by
    intro kx ky d
    by_cases h : kx = ky
    · exact ⟨some d, fun k => (if_pos h).trans rfl⟩
    · exact ⟨none, fun k => (if_neg h).trans rfl⟩
  have ifd : ∀ (b : Bool) (d : D), Bnd (R := R) fun k => match b with | true => k d | false => none := by
    intro b d; cases b
    · exact ⟨none, fun _ => rfl⟩
    · exact ⟨some d, fun _ => rfl⟩
  have ifz : ∀ (kx ky : IntKind) (b : Bool) (d : D), Bnd (R := R) fun k => if kx = ky then (match b with | true => none | false => k d) else none := by
    intro kx ky b d
    by_cases h : kx = ky
    · cases b
      · exact ⟨some d, fun k => (if_pos h).trans rfl⟩
      · exact ⟨none, fun k => (if_pos h).trans rfl⟩
    · exact ⟨none, fun k => (if_neg h).trans rfl⟩
  have eqb : ∀ (e : Option Bool) (f : Bool → D), Bnd (R := R) fun k => match e with | some b => k (f b) | none => none := by
    intro e f; cases e
    · exact ⟨none, fun _ => rfl⟩
    · exact ⟨some _, fun _ => rfl⟩
  cases op
  case eql => exact eqb (eqD cx t lit x y) (fun b => .bool b)
  case neq => exact eqb (eqD cx t lit x y) (fun b => .bool (!b))
  all_goals
    cases x <;> first
      | exact .none
      | (cases y <;> first
          | exact .none
          | exact .pure _
          | exact ifk _ _ _
          | exact ifd _ _
          | exact ifz _ _ _ _)

theorem unK_bnd (op : UnOp) (x : D) : Bnd (R := R) (unK op x) := by
  cases op <;> cases x <;> first | exact .none | exact .pure _

theorem Bnd.of {V : (D → Option R) → Option R} (s : Option D) (h : ∀ k, V k = s.bind k) : Bnd V := ⟨s, h⟩

theorem convK_bnd (src dst : TypeId) (x : D) : Bnd (R := R) (convK cx src dst x) := by
  refine .of (convK cx src dst x some) (fun k => ?_)
  unfold convK
  split <;> (try rfl)
  all_goals (split <;> rfl)

theorem boundK_bnd (x : D) (hi : Nat) {V : Nat → (D → Option R) → Option R} (hV : ∀ n, Bnd (V n)) : Bnd (R := R) fun k => boundK x hi fun n => V n k := by
  cases x <;> first
    | exact .none
    | skip
  rename_i kd n
  show Bnd fun k => match decide (0 ≤ n ∧ n ≤ (hi : Int)) with | true => V n.toNat k | false => none
  cases decide (0 ≤ n ∧ n ≤ (hi : Int))
  · exact .none
  · exact hV _

theorem optK_bnd (x : Option D) (d hi : Nat) {V : Nat → (D → Option R) → Option R} (hV : ∀ n, Bnd (V n)) : Bnd (R := R) fun k => optK x d hi fun n => V n k := by
  cases x with
  | none => exact hV d
  | some x => exact boundK_bnd x hi hV

theorem cut_bnd (lo hi : Option D) (d : Nat) (F : Nat → Nat → D) : Bnd (R := R) fun k => optK hi d d fun h => optK lo 0 h fun l => k (F h l) :=
  optK_bnd (V := fun h k => optK lo 0 h fun l => k (F h l)) hi d d fun h => optK_bnd (V := fun l k => k (F h l)) lo 0 h fun l => .pure _

theorem sliceK_bnd (x : D) (lo hi mx : Option D) : Bnd (R := R) (sliceK x lo hi mx) := by
  cases x
  case str s =>
    cases mx
    · exact cut_bnd lo hi s.length fun h l => .str ((s.take h).drop l)
    · exact .none
  case nils =>
    cases mx
    · exact cut_bnd lo hi 0 fun _ _ => .nils
    · exact .none
  case sl m t s =>
    cases mx with
    | none => exact cut_bnd lo hi s.length fun h l => .sl .ro t ((s.take h).drop l)
    | some mx =>
      cases mx
      case int k1 m1 =>
        cases hi with
        | none => exact .none
        | some hi =>
          cases hi
          case int k2 h2 =>
            show Bnd fun k => match decide (h2 = m1) with
              | true => boundK (.int .i64 h2) s.length fun h => optK lo 0 h fun l => k (.sl .cap t ((s.take h).drop l))
              | false => none
            cases decide (h2 = m1)
            · exact .none
            · exact boundK_bnd (V := fun h k => optK lo 0 h fun l => k (.sl .cap t ((s.take h).drop l))) _ _ fun h => optK_bnd (V := fun l k => k (.sl .cap t ((s.take h).drop l))) lo 0 h fun l => .pure _
          all_goals exact .none
      all_goals exact .none
  all_goals exact .none

theorem appendK_bnd (st : TypeId) (x y : D) : Bnd (R := R) (appendK cx st x y) := by
  refine .of (appendK cx st x y some) (fun k => ?_)
  unfold appendK
  split
  · split
    · split
      · split
        · split <;> rfl
        · split
          · split <;> rfl
          · rfl
        · split
          · split <;> rfl
          · rfl
        · split
          · split <;> rfl
          · rfl
        · rfl
      · rfl
    · rfl
  · rfl

end
end Go.Ev

namespace Go.Ev
section
variable {R : Type} {cx : Cx}
variable {hc : FuncId → List D → Sto → (D → Sto → Option R) → Option R} {all : List Oper} {o : Oper} {f : Foot}

theorem out_cons {t : Nat} {x : Operand} {r : List Operand} (h : t ∉ tmpsOf (x :: r)) : t ∉ tmpOf x ∧ t ∉ tmpsOf r := by
  simp only [tmpsOf, List.mem_append, not_or] at h; exact h

theorem argsOf_set {want : List Nat} {t : Nat} {d : D} : ∀ (args : List Operand) (i : Nat) (env : List D), t ∉ tmpsOf args → argsOf (env.set t d) want i args = ((argsOf env want i args).1, (argsOf env want i args).2.set t d)
  | [], i, env, _ => rfl
  | x :: r, i, env, h => by
    obtain ⟨h1, h2⟩ := out_cons h
    unfold argsOf
    simp only [rd_set h1, left_set h1]
    cases want.any (Nat.beq i)
    · simp only [argsOf_set r (i + 1) env h2]
    · simp only [argsOf_set r (i + 1) (left env x) h2]

theorem argsOf_chg {want : List Nat} : ∀ (args : List Operand) (i : Nat) (env : List D), Chg (tmpsOf args) env (argsOf env want i args).2
  | [], i, env => .refl _ _
  | x :: r, i, env => by
    unfold argsOf
    simp only
    cases want.any (Nat.beq i)
    · exact (argsOf_chg r (i + 1) env).mono (fun t h => by simp [tmpsOf, h])
    · exact (Chg.left (fun t h => by simp [tmpsOf, h]) env).trans ((argsOf_chg r (i + 1) (left env x)).mono (fun t h => by simp [tmpsOf, h]))

theorem fillS_set {fs : List FI} {t : Nat} {d : D} : ∀ (parts : List (Nat × Operand)) (env cs : List D), t ∉ tmpsOf (parts.map (·.2)) → fillS fs (env.set t d) parts cs = (fillS fs env parts cs).map fun p => (p.1, p.2.set t d)
  | [], env, cs, _ => rfl
  | (i, x) :: r, env, cs, h => by
    obtain ⟨h1, h2⟩ := out_cons (x := x) (r := r.map (·.2)) h
    unfold fillS
    rw [rd_set h1, left_set h1]
    cases fs[i]? with
    | none => rfl
    | some fi =>
      simp only
      cases fits (rd env x).cells fi.size
      · rfl
      · cases Nat.ble (fi.off + (rd env x).cells.length) cs.length
        · rfl
        · exact fillS_set r _ _ h2

theorem fillS_chg {fs : List FI} : ∀ (parts : List (Nat × Operand)) (env cs : List D) (p), fillS fs env parts cs = some p → Chg (tmpsOf (parts.map (·.2))) env p.2
  | [], env, cs, p, h => by cases h; exact .refl _ _
  | (i, x) :: r, env, cs, p, h => by
    unfold fillS at h
    split at h
    · split at h
      · exact (Chg.left (fun t h => by simp [tmpsOf, h]) env).trans ((fillS_chg r _ _ p h).mono (fun t h => by simp [tmpsOf] at h ⊢; exact .inr h))
      · cases h
    · cases h

theorem fillL_set {sz : Nat} {t : Nat} {d : D} : ∀ (parts : List (Nat × Operand)) (env : List D) (cs : List (List D)), t ∉ tmpsOf (parts.map (·.2)) → fillL sz (env.set t d) parts cs = fillL sz env parts cs
  | [], env, cs, _ => rfl
  | (i, x) :: r, env, cs, h => by
    obtain ⟨h1, h2⟩ := out_cons (x := x) (r := r.map (·.2)) h
    unfold fillL
    simp only [rd_set h1, fillL_set r env _ h2]

/-- Whatever an operation does, by what it yields. -/
theorem foot_gen (W : List D → Sto → Option (D × List D × Sto)) (hev : ∀ env sto k, evOp cx hc all o ⟨env, sto⟩ k = (W env sto).bind fun p => k ⟨put p.2.1 o.dst p.1, p.2.2⟩)
    (hW : ∀ env sto (t : Nat) d, t ∉ f.rd → t ∉ f.wr → W (env.set t d) sto = (W env sto).map fun p => (p.1, p.2.1.set t d, p.2.2))
    (hch : ∀ env sto p, W env sto = some p → Chg f.wr env p.2.1 ∧ (f.calm = true → p.2.2 = sto)) (ha : f.apart = false) : OpFoot cx hc all o f := by
  refine ⟨fun st => ?_, fun t d env sto k h1 h2 h3 => ?_, fun h => by rw [ha] at h; cases h⟩
  · refine ⟨(W st.env st.sto).map fun p => ⟨put p.2.1 o.dst p.1, p.2.2⟩, fun k => ?_, fun st' h => ?_⟩
    · rw [show st = ⟨st.env, st.sto⟩ from rfl, hev]; cases W st.env st.sto <;> rfl
    · cases hw : W st.env st.sto with
      | none => rw [hw] at h; cases h
      | some p =>
        rw [hw] at h; cases h
        obtain ⟨h1, h2⟩ := hch _ _ p hw
        exact ⟨(h1.mono (fun t h => List.mem_append_right _ h)).trans (.put (fun t h => List.mem_append_left _ h) _ _), h2⟩
  · rw [hev, hev, hW env sto t d h1 h3]
    cases W env sto with
    | none => rfl
    | some p => simp only [Option.map_some, Option.bind_some, put_set h2]

theorem foot_move {x : Operand} (ho : o.op = .move x) (h : footOf cx all o = some f) : OpFoot cx hc all o f := by
  unfold footOf at h
  rw [ho] at h
  simp only at h
  cases hs : stealsTy cx o.type all o.dst
  · rw [hs] at h; cases h
    refine foot_plain (fun env k => k (rd env x).dup) (fun env sto k => ?_) (fun env => .pure _) (fun env t d h => ?_)
    · unfold evOp; simp only [ho, hs]
    · simp only [rd_set h]
  · rw [hs] at h; cases h
    refine foot_left (fun env k => k (rd env x)) x (fun _ h => h) (fun env sto k => ?_) (fun env => .pure _) (fun env t d h => ?_)
    · unfold evOp; simp only [ho, hs]
    · simp only [rd_set h]

theorem foot_assign {x : Operand} (ho : o.op = .assign x) (h : footOf cx all o = some f) : OpFoot cx hc all o f := by
  unfold footOf at h
  rw [ho] at h
  cases h
  refine foot_left (fun env k => k (rd env x)) x (fun _ h => h) (fun env sto k => ?_) (fun env => .pure _) (fun env t d h => ?_)
  · unfold evOp; simp only [ho] <;> rfl
  · simp only [rd_set h]

theorem out_app {t : Nat} {a b : List Nat} (h : t ∉ a ++ b) : t ∉ a ∧ t ∉ b := by
  simpa [not_or] using h

theorem foot_pick {c x y : Operand} (ho : o.op = .pick c x y) (h : footOf cx all o = some f) : OpFoot cx hc all o f := by
  unfold footOf at h
  rw [ho] at h
  cases h
  refine foot_plain (fun env k => match rd env c with
    | .bool t => match t with
      | true => k (rd env x).dup
      | false => k (rd env y).dup
    | _ => none) (fun env sto k => ?_) (fun env => ?_) (fun env t d h => ?_)
  · unfold evOp; simp only [ho] <;> rfl
  · generalize rd env c = z
    cases z <;> first
      | exact .none
      | skip
    rename_i b
    cases b <;> exact .pure _
  · obtain ⟨h12, h3⟩ := out_app h
    obtain ⟨h1, h2⟩ := out_app h12
    simp only [rd_set h1, rd_set h2, rd_set h3]

theorem foot_nilCheck {x : Operand} (ho : o.op = .nilCheck x) (h : footOf cx all o = some f) : OpFoot cx hc all o f := by
  unfold footOf at h
  rw [ho] at h
  cases h
  refine foot_plain (fun env k => match rd env x with
    | .ptr i off => k (.ptr i off)
    | .box cs => k (.box cs)
    | .fn f cs => k (.fn f cs)
    | _ => none) (fun env sto k => ?_) (fun env => ?_) (fun env t d h => ?_)
  · unfold evOp; simp only [ho] <;> rfl
  · generalize rd env x = z
    cases z <;> first
      | exact .none
      | exact .pure _
  · simp only [rd_set h]

theorem foot_binOp {op t x y tr} (ho : o.op = .binOp op t x y tr) (h : footOf cx all o = some f) : OpFoot cx hc all o f := by
  unfold footOf at h
  rw [ho] at h
  cases h
  refine foot_plain (fun env => binK cx op t (isConstO x || isConstO y) (rd env x) (rd env y)) (fun env sto k => ?_) (fun env => binK_bnd _ _ _ _ _) (fun env t d h => ?_)
  · unfold evOp; simp only [ho] <;> rfl
  · obtain ⟨h1, h2⟩ := out_app h
    simp only [rd_set h1, rd_set h2]

theorem foot_unOp {op t x} (ho : o.op = .unOp op t x) (h : footOf cx all o = some f) : OpFoot cx hc all o f := by
  unfold footOf at h
  rw [ho] at h
  cases h
  refine foot_plain (fun env => unK op (rd env x)) (fun env sto k => ?_) (fun env => unK_bnd _ _) (fun env t d h => ?_)
  · unfold evOp; simp only [ho] <;> rfl
  · simp only [rd_set h]

theorem optMap_set {env : List D} {t : Nat} {d : D} {x : Option Operand} (h : t ∉ optOf x) : x.map (rd (env.set t d)) = x.map (rd env) := by
  cases x with
  | none => rfl
  | some x => simp only [Option.map_some, rd_set (x := x) h]

theorem foot_slice {ty x lo hi mx} (ho : o.op = .slice ty x lo hi mx) (h : footOf cx all o = some f) : OpFoot cx hc all o f := by
  unfold footOf at h
  rw [ho] at h
  cases h
  refine foot_plain (fun env k => match tyOk cx ty (rd env x) with
    | true => sliceK (rd env x) (lo.map (rd env)) (hi.map (rd env)) (mx.map (rd env)) k
    | false => none) (fun env sto k => ?_) (fun env => ?_) (fun env t d h => ?_)
  · unfold evOp; simp only [ho] <;> rfl
  · cases tyOk cx ty (rd env x)
    · exact .none
    · exact sliceK_bnd _ _ _ _
  · obtain ⟨h123, h4⟩ := out_app h
    obtain ⟨h12, h3⟩ := out_app h123
    obtain ⟨h1, h2⟩ := out_app h12
    simp only [rd_set h1, optMap_set h2, optMap_set h3, optMap_set h4]

theorem foot_fieldAddr {ty x fi} (ho : o.op = .fieldAddr ty x fi) (h : footOf cx all o = some f) : OpFoot cx hc all o f := by
  unfold footOf at h
  rw [ho] at h
  cases h
  refine foot_plain (fun env k => match look cx.tab ty with
    | some { d := .struct fs, .. } => match fs[fi]? with
      | some fi => match Nat.beq fi.size 0, rd env x with
        | false, .ptr i off => k (.ptr i (off + fi.off))
        | false, .box cs => match Nat.ble fi.off cs.length with
          | true => k (.box (cs.drop fi.off))
          | false => none
        | _, _ => none
      | none => none
    | _ => none) (fun env sto k => ?_) (fun env => ?_) (fun env t d h => ?_)
  · unfold evOp; simp only [ho] <;> rfl
  · refine .of (Option.bind (match look cx.tab ty with
      | some { d := .struct fs, .. } => fs[fi]?
      | _ => none) fun fi => match Nat.beq fi.size 0, rd env x with
        | false, .ptr i off => some (.ptr i (off + fi.off))
        | false, .box cs => match Nat.ble fi.off cs.length with
          | true => some (.box (cs.drop fi.off))
          | false => none
        | _, _ => none) (fun k => ?_)
    cases look cx.tab ty with
    | none => rfl
    | some e =>
      obtain ⟨ed, _, _, _, _, _⟩ := e
      cases ed <;> first
        | rfl
        | skip
      rename_i fs
      simp only
      cases fs[fi]? with
      | none => rfl
      | some fi =>
        simp only [Option.bind_some]
        cases Nat.beq fi.size 0
        · generalize rd env x = z
          cases z <;> first
            | rfl
            | skip
          rename_i cs
          simp only
          cases Nat.ble fi.off cs.length <;> rfl
        · rfl
  · simp only [rd_set h]

theorem foot_field {ty x fi} (ho : o.op = .field ty x fi) (h : footOf cx all o = some f) : OpFoot cx hc all o f := by
  unfold footOf at h
  rw [ho] at h
  cases h
  refine foot_plain (fun env k => match look cx.tab ty with
    | some { d := .struct fs, .. } => match fs[fi]?, rd env x with
      | some fi, .agg cs => match Nat.ble (fi.off + fi.size) cs.length with
        | true => k (ofCells fi.agg (((cs.drop fi.off).take fi.size).map D.dup1))
        | false => none
      | _, _ => none
    | _ => none) (fun env sto k => ?_) (fun env => ?_) (fun env t d h => ?_)
  · unfold evOp; simp only [ho] <;> rfl
  · cases look cx.tab ty with
    | none => exact .none
    | some e =>
      obtain ⟨ed, _, _, _, _, _⟩ := e
      cases ed <;> first
        | exact .none
        | skip
      rename_i fs
      simp only
      cases fs[fi]? with
      | none => exact .none
      | some fi =>
        generalize rd env x = z
        cases z <;> first
          | exact .none
          | skip
        rename_i cs
        simp only
        cases Nat.ble (fi.off + fi.size) cs.length
        · exact .none
        · exact .pure _
  · simp only [rd_set h]

end
end Go.Ev

namespace Go.Ev
section
variable {R : Type} {cx : Cx}
variable {hc : FuncId → List D → Sto → (D → Sto → Option R) → Option R} {all : List Oper} {o : Oper} {f : Foot}

theorem bnd_bind {α : Type} (m : Option α) {V : α → (D → Option R) → Option R} (h : ∀ a, Bnd (V a)) : Bnd (R := R) fun k => m.bind fun a => V a k := by
  cases m with
  | none => exact .none
  | some a => exact h a

theorem foot_indexAddr {ty x ix} (ho : o.op = .indexAddr ty x ix) (h : footOf cx all o = some f) : OpFoot cx hc all o f := by
  unfold footOf at h
  rw [ho] at h
  cases h
  refine foot_plain (fun env k => match look cx.tab ty, rd env x, rd env ix with
    | some { d := .slice _, .. }, .sl m ty' l, .int _ n => match tyOk cx ty (.sl m ty' l) with
      | true => (nth l n).bind fun e => k (.box (cells ty' e))
      | false => none
    | some { d := .array len e, .. }, .ptr i off, .int _ n => match look cx.tab e with
      | some te => match decide (0 ≤ n ∧ n < (len : Int)) with
        | true => k (.ptr i (off + n.toNat * te.size))
        | false => none
      | none => none
    | _, _, _ => none) (fun env sto k => ?_) (fun env => ?_) (fun env t d h => ?_)
  · unfold evOp; simp only [ho] <;> rfl
  · cases look cx.tab ty with
    | none => exact .none
    | some e =>
      obtain ⟨ed, _, _, _, _, _⟩ := e
      generalize rd env x = z
      generalize rd env ix = y
      cases ed <;> first
        | exact .none
        | skip
      · cases z <;> first
          | exact .none
          | skip
        cases y <;> first
          | exact .none
          | skip
        rename_i m ty' l _ n
        simp only
        cases tyOk cx ty (.sl m ty' l)
        · exact .none
        · exact bnd_bind _ fun _ => .pure _
      · rename_i len e
        cases z <;> first
          | exact .none
          | skip
        cases y <;> first
          | exact .none
          | skip
        rename_i n
        simp only
        cases look cx.tab e with
        | none => exact .none
        | some te =>
          simp only
          cases decide (0 ≤ n ∧ n < (len : Int))
          · exact .none
          · exact .pure _
  · obtain ⟨h1, h2⟩ := out_app h
    simp only [rd_set h1, rd_set h2]

theorem foot_index {ty x ix} (ho : o.op = .index ty x ix) (h : footOf cx all o = some f) : OpFoot cx hc all o f := by
  unfold footOf at h
  rw [ho] at h
  cases h
  refine foot_plain (fun env k => match look cx.tab ty, rd env x, rd env ix with
    | some { d := .str, .. }, .str s, .int _ n => (nth s n).bind fun b => k (.int .u8 (b.toNat : Int))
    | some { d := .array len e, .. }, .agg cs, .int _ n => match look cx.tab e with
      | some te => match decide (0 ≤ n ∧ n < (len : Int)), Nat.ble (n.toNat * te.size + te.size) cs.length with
        | true, true => k (ofCells te.agg (((cs.drop (n.toNat * te.size)).take te.size).map D.dup1))
        | _, _ => none
      | none => none
    | _, _, _ => none) (fun env sto k => ?_) (fun env => ?_) (fun env t d h => ?_)
  · unfold evOp; simp only [ho] <;> rfl
  · cases look cx.tab ty with
    | none => exact .none
    | some e =>
      obtain ⟨ed, _, _, _, _, _⟩ := e
      generalize rd env x = z
      generalize rd env ix = y
      cases ed <;> first
        | exact .none
        | skip
      · cases z <;> first
          | exact .none
          | skip
        cases y <;> first
          | exact .none
          | skip
        exact bnd_bind _ fun _ => .pure _
      · rename_i len e
        cases z <;> first
          | exact .none
          | skip
        cases y <;> first
          | exact .none
          | skip
        rename_i cs _ n
        simp only
        cases look cx.tab e with
        | none => exact .none
        | some te =>
          simp only
          cases decide (0 ≤ n ∧ n < (len : Int)) <;> cases Nat.ble (n.toNat * te.size + te.size) cs.length <;> first
            | exact .none
            | exact .pure _
  · obtain ⟨h1, h2⟩ := out_app h
    simp only [rd_set h1, rd_set h2]

theorem foot_extract {x i} (ho : o.op = .extract x i) (h : footOf cx all o = some f) : OpFoot cx hc all o f := by
  unfold footOf at h
  rw [ho] at h
  cases h
  let L : List D → List D := fun env => match rd env x with
    | .tup cs => match cs[i]? with
      | some c => match c.leaf with
        | true => left env x
        | false => env
      | none => env
    | _ => env
  refine foot_val (fun env k => match rd env x with
    | .tup cs => match cs[i]? with
      | some c => match c.leaf with
        | true => k c
        | false => k c.dup
      | none => none
    | _ => none) L (fun env sto k => ?_) (fun env => ?_) (fun env t d h => ?_) (fun env => ?_) (fun env t d h _ => ?_)
  · unfold evOp; simp only [ho, L]
    generalize rd env x = z
    cases z <;> first
      | rfl
      | skip
    rename_i cs
    simp only
    cases cs[i]? with
    | none => rfl
    | some c => simp only; cases c.leaf <;> rfl
  · generalize rd env x = z
    cases z <;> first
      | exact .none
      | skip
    rename_i cs
    simp only
    cases cs[i]? with
    | none => exact .none
    | some c => simp only; cases c.leaf <;> exact .pure _
  · simp only [rd_set h]
  · simp only [L]
    split
    · split
      · split
        · exact .left (fun _ h => h) _
        · exact .refl _ _
      · exact .refl _ _
    · exact .refl _ _
  · simp only [L, rd_set h, left_set h]
    generalize rd env x = z
    cases z <;> first
      | rfl
      | skip
    rename_i cs
    simp only
    cases cs[i]? with
    | none => rfl
    | some c => simp only; cases c.leaf <;> rfl

/-- Is the slice that is converted to its own type taken over? -/
def convOwn (cx : Cx) (src dst : TypeId) (x : D) : Option (Option D) :=
  match look cx.tab src, Nat.beq src dst, x with
  | some { d := .slice e, .. }, true, .sl m .byte l => match look cx.tab e with
    | some { d := .int .u8, .. } => match m, l with
      | .own, c :: l' => some (some (.sl .ro .byte (c :: l')))
      | _, _ => some none
    | _ => some none
  | _, _, _ => none

theorem foot_convert {src dst x} (ho : o.op = .convert src dst x) (h : footOf cx all o = some f) : OpFoot cx hc all o f := by
  unfold footOf at h
  rw [ho] at h
  cases h
  refine foot_val (fun env k => match convOwn cx src dst (rd env x) with
    | some (some d) => k d
    | some none => none
    | none => convK cx src dst (rd env x) k) (fun env => match convOwn cx src dst (rd env x) with
    | some (some _) => left env x
    | _ => env) (fun env sto k => ?_) (fun env => ?_) (fun env t d h => ?_) (fun env => ?_) (fun env t d h _ => ?_)
  · unfold evOp; simp only [ho]
    unfold convOwn
    cases look cx.tab src with
    | none => rfl
    | some e =>
      obtain ⟨ed, _, _, _, _, _⟩ := e
      cases ed <;> first
        | rfl
        | skip
      rename_i e
      cases Nat.beq src dst
      · rfl
      · generalize rd env x = z
        cases z <;> first
          | rfl
          | skip
        rename_i m ty l
        cases ty <;> first
          | rfl
          | skip
        simp only
        cases look cx.tab e with
        | none => rfl
        | some e2 =>
          obtain ⟨ed2, _, _, _, _, _⟩ := e2
          cases ed2 <;> first
            | rfl
            | skip
          rename_i kk
          cases kk <;> first
            | rfl
            | skip
          cases m <;> first
            | rfl
            | (cases l <;> rfl)
  · skip
    cases convOwn cx src dst (rd env x) with
    | none => exact convK_bnd _ _ _
    | some y => cases y with
      | none => exact .none
      | some d => exact .pure _
  · simp only [rd_set h]
  · simp only
    split
    · exact .left (fun _ h => h) _
    · exact .refl _ _
  · simp only [rd_set h, left_set h]
    split <;> rfl

theorem map_rd_set {env : List D} {t : Nat} {d : D} : ∀ {l : List Operand}, t ∉ tmpsOf l → (l.map fun x => (rd (env.set t d) x).dup) = l.map fun x => (rd env x).dup
  | [], _ => rfl
  | x :: r, h => by
    obtain ⟨h1, h2⟩ := out_cons h
    simp only [List.map_cons, rd_set h1, map_rd_set h2]

theorem foot_makeFunc {fo first caps} (ho : o.op = .makeFunc fo first caps) (h : footOf cx all o = some f) : OpFoot cx hc all o f := by
  unfold footOf at h
  rw [ho] at h
  cases h
  refine foot_plain (fun env k => match fo with
    | .func f => match first.toList with
      | [] => k (.fn f (caps.toList.map fun x => (rd env x).dup))
      | _ => none
    | _ => none) (fun env sto k => ?_) (fun env => ?_) (fun env t d h => ?_)
  · unfold evOp; simp only [ho]
    cases fo <;> rfl
  · cases fo <;> first
      | exact .none
      | skip
    simp only
    cases first.toList
    · exact .pure _
    · exact .none
  · simp only [map_rd_set h]

theorem foot_buildSlice {ty len parts} (ho : o.op = .buildSlice ty len parts) (h : footOf cx all o = some f) : OpFoot cx hc all o f := by
  unfold footOf at h
  rw [ho] at h
  cases h
  refine foot_plain (fun env k => match look cx.tab ty with
    | some { d := .slice e, .. } => match look cx.tab e with
      | some { size := sz, ty := some ty, zero := z, .. } => match fillL sz env parts.toList (List.replicate len z) with
        | some cs => match decRow ty cs with
          | some l => match Nat.ble (len * sz) 16777216 with
            | true => k (.sl .own ty l)
            | false => none
          | none => none
        | none => none
      | _ => none
    | _ => none) (fun env sto k => ?_) (fun env => ?_) (fun env t d h => ?_)
  · unfold evOp; simp only [ho] <;> rfl
  · cases look cx.tab ty with
    | none => exact .none
    | some e =>
      obtain ⟨ed, _, _, _, _, _⟩ := e
      cases ed <;> first
        | exact .none
        | skip
      rename_i e
      simp only
      cases look cx.tab e with
      | none => exact .none
      | some e2 =>
        obtain ⟨ed2, sz, by2, ag2, ty2, z2⟩ := e2
        cases ty2 with
        | none => exact .none
        | some ty2 =>
          simp only
          cases fillL sz env parts.toList (List.replicate len z2) with
          | none => exact .none
          | some cs =>
            simp only
            cases decRow ty2 cs with
            | none => exact .none
            | some l =>
              simp only
              cases Nat.ble (len * sz) 16777216
              · exact .none
              · exact .pure _
  · simp only [fillL_set (sz := _) parts.toList env _ h]

theorem foot_build {ty parts} (ho : o.op = .build ty parts) (h : footOf cx all o = some f) : OpFoot cx hc all o f := by
  unfold footOf at h
  rw [ho] at h
  cases h
  let F : List D → Option (List D × List D) := fun env => match look cx.tab ty with
    | some { d := .struct fs, zero := z, .. } => fillS fs env parts.toList z
    | _ => none
  have hF : ∀ env (t : Nat) d, t ∉ tmpsOf (parts.toList.map (·.2)) → F (env.set t d) = (F env).map fun p => (p.1, p.2.set t d) := by
    intro env t d h
    simp only [F]
    split
    · exact fillS_set _ _ _ h
    · rfl
  refine foot_val (fun env k => match F env with
    | some (cs, _) => k (.agg cs)
    | none => none) (fun env => match F env with
    | some (_, env) => env
    | none => env) (fun env sto k => ?_) (fun env => ?_) (fun env t d h => ?_) (fun env => ?_) (fun env t d h _ => ?_)
  · unfold evOp; simp only [ho, F]
    cases look cx.tab ty with
    | none => rfl
    | some e =>
      obtain ⟨ed, _, _, _, _, z⟩ := e
      cases ed <;> first
        | rfl
        | skip
      rename_i fs
      simp only
      cases fillS fs env parts.toList z with
      | none => rfl
      | some p => rfl
  · skip
    cases F env with
    | none => exact .none
    | some p => exact .pure _
  · simp only [hF env t d h]
    cases F env <;> rfl
  · simp only [F]
    cases look cx.tab ty with
    | none => exact .refl _ _
    | some e =>
      obtain ⟨ed, _, _, _, _, z⟩ := e
      cases ed <;> first
        | exact .refl _ _
        | skip
      rename_i fs
      simp only
      cases hp : fillS fs env parts.toList z with
      | none => exact .refl _ _
      | some p => exact fillS_chg _ _ _ _ hp
  · simp only [hF env t d h]
    cases F env <;> rfl

theorem foot_len {args ats} (ho : o.op = .call { callee := .builtin .len, args, argTypes := ats }) (h : footOf cx all o = some f) : OpFoot cx hc all o f := by
  unfold footOf at h
  rw [ho] at h
  cases h
  refine foot_plain (fun env k => match args.toList, ats.toList with
    | [x], [t] => match look cx.tab t, rd env x with
      | some { d := .str, .. }, .str s => k (.int .i64 (s.length : Int))
      | some { d := .slice _, .. }, .nils => k (.int .i64 0)
      | some { d := .slice _, .. }, .sl _ _ l => k (.int .i64 (l.length : Int))
      | some { d := .array len _, .. }, _ => match Nat.ble len 9223372036854775807 with
        | true => k (.int .i64 (len : Int))
        | false => none
      | _, _ => none
    | _, _ => none) (fun env sto k => ?_) (fun env => ?_) (fun env t d h => ?_)
  · unfold evOp; simp only [ho] <;> rfl
  · split
    · rename_i x t _ _
      cases look cx.tab t with
      | none => exact .none
      | some e =>
        obtain ⟨ed, _, _, _, _, _⟩ := e
        generalize rd env x = z
        cases ed <;> first
          | exact .none
          | skip
        · cases z <;> first
            | exact .none
            | exact .pure _
        · cases z <;> first
            | exact .none
            | exact .pure _
        · rename_i len e
          simp only
          cases Nat.ble len 9223372036854775807
          · exact .none
          · exact .pure _
    · exact .none
  · dsimp only at h ⊢
    split
    · rename_i x t' hx _
      rw [hx] at h
      rw [rd_set (out_cons h).1]
    · rfl

theorem foot_append {args ats} (ho : o.op = .call { callee := .builtin .append, args, argTypes := ats }) (h : footOf cx all o = some f) : OpFoot cx hc all o f := by
  unfold footOf at h
  rw [ho] at h
  cases h
  refine foot_val (fun env k => match args.toList, ats.toList with
    | [x, y], [t, t2] => match look cx.tab t2 with
      | some { d := .slice _, .. } | some { d := .str, .. } => appendK cx t (rd env x) (rd env y) k
      | _ => none
    | _, _ => none) (fun env => match args.toList with
    | [x, _] => left env x
    | _ => env) (fun env sto k => ?_) (fun env => ?_) (fun env t d h => ?_) (fun env => ?_) (fun env t d h _ => ?_)
  · unfold evOp; simp only [ho]
    generalize args.toList = al
    generalize ats.toList = tl
    rcases al with _ | ⟨x, _ | ⟨y, _ | _⟩⟩ <;> rcases tl with _ | ⟨t, _ | ⟨t2, _ | _⟩⟩ <;> rfl
  · split
    · split
      · exact appendK_bnd _ _ _
      · exact appendK_bnd _ _ _
      · exact .none
    · exact .none
  · dsimp only at h ⊢
    split
    · rename_i x y t' t2 hx _
      rw [hx] at h
      obtain ⟨h1, h2⟩ := out_cons h
      rw [rd_set h1, rd_set (out_cons h2).1]
    · rfl
  · dsimp only
    split
    · rename_i x y hx
      exact .left (fun t h => by rw [hx]; simp [tmpsOf, h]) _
    · exact .refl _ _
  · dsimp only at h ⊢
    split
    · rename_i x y hx
      rw [hx] at h
      exact left_set (out_cons h).1
    · rfl

end
end Go.Ev

namespace Go.Ev
section
variable {R : Type} {cx : Cx}
variable {hc : FuncId → List D → Sto → (D → Sto → Option R) → Option R} {all : List Oper} {o : Oper} {f : Foot}

theorem foot_load {ty x} (ho : o.op = .load ty x) (h : footOf cx all o = some f) : OpFoot cx hc all o f := by
  unfold footOf at h
  rw [ho] at h
  simp only at h
  refine foot_gen (fun env sto => match look cx.tab ty with
    | some e => match rd env x with
      | .ptr i off => match sto[i]? with
        | some cs => match Nat.ble (off + e.size) cs.length with
          | true => match e.agg, stealsTy cx o.type all o.dst, (cs.getD off .any).leaf with
            | false, true, true => some (cs.getD off .any, env, sto.set i (cs.set off (cs.getD off .any).dup1))
            | _, _, _ => some (ofCells e.agg (((cs.drop off).take e.size).map D.dup1), env, sto)
          | false => none
        | none => none
      | .box cs => match Nat.ble e.size cs.length with
        | true => some (ofCells e.agg ((cs.take e.size).map D.dup1), env, sto)
        | false => none
      | _ => none
    | none => none) (fun env sto k => ?_) (fun env sto t d h1 _ => ?_) (fun env sto p hp => ?_) ?_
  · unfold evOp; simp only [ho]
    cases look cx.tab ty with
    | none => rfl
    | some e =>
      generalize rd env x = z
      cases z <;> first
        | rfl
        | skip
      · rename_i i off
        simp only
        cases sto[i]? with
        | none => rfl
        | some cs =>
          simp only
          cases Nat.ble (off + e.size) cs.length
          · rfl
          · cases e.agg <;> cases stealsTy cx o.type all o.dst <;> cases (cs.getD off .any).leaf <;> rfl
      · rename_i cs
        simp only
        cases Nat.ble e.size cs.length <;> rfl
  · have hx : t ∉ tmpOf x := by
      cases hs : stealsTy cx o.type all o.dst <;> rw [hs] at h <;> cases h <;> exact h1
    simp only [rd_set hx]
    cases look cx.tab ty with
    | none => rfl
    | some e =>
      generalize rd env x = z
      cases z <;> first
        | rfl
        | skip
      · rename_i i off
        simp only
        cases sto[i]? with
        | none => rfl
        | some cs =>
          simp only
          cases Nat.ble (off + e.size) cs.length
          · rfl
          · cases e.agg <;> cases stealsTy cx o.type all o.dst <;> cases (cs.getD off .any).leaf <;> rfl
      · rename_i cs
        simp only
        cases Nat.ble e.size cs.length <;> rfl
  · split at hp
    · split at hp
      · split at hp
        · split at hp
          · split at hp
            · rename_i hs _
              rw [hs] at h; cases h; cases hp
              exact ⟨.refl _ _, fun h => by cases h⟩
            · cases hp; exact ⟨.refl _ _, fun _ => rfl⟩
          · cases hp
        · cases hp
      · split at hp
        · cases hp; exact ⟨.refl _ _, fun _ => rfl⟩
        · cases hp
      · cases hp
    · cases hp
  · cases hs : stealsTy cx o.type all o.dst <;> rw [hs] at h <;> cases h <;> rfl

theorem foot_alloc {ty} (ho : o.op = .alloc ty) (h : footOf cx all o = some f) : OpFoot cx hc all o f := by
  unfold footOf at h
  rw [ho] at h
  cases h
  refine foot_gen (fun env sto => match look cx.tab ty with
    | some { zero := [], .. } => none
    | some e => some (.ptr sto.length 0, env, sto ++ [e.zero])
    | none => none) (fun env sto k => ?_) (fun env sto t d h1 _ => ?_) (fun env sto p hp => ?_) rfl
  · unfold evOp; simp only [ho]
    cases look cx.tab ty with
    | none => rfl
    | some e =>
      obtain ⟨_, _, _, _, _, z⟩ := e
      cases z <;> rfl
  · cases look cx.tab ty with
    | none => rfl
    | some e =>
      obtain ⟨_, _, _, _, _, z⟩ := e
      cases z <;> rfl
  · refine ⟨?_, fun h => by cases h⟩
    split at hp
    · cases hp
    · cases hp; exact .refl _ _
    · cases hp

theorem foot_box {ty x} (ho : o.op = .box ty x) (h : footOf cx all o = some f) : OpFoot cx hc all o f := by
  unfold footOf at h
  rw [ho] at h
  cases h
  refine foot_gen (fun env sto => match look cx.tab ty with
    | some e => match fits (rd env x).cells e.size with
      | true => some (.ptr sto.length 0, left env x, sto ++ [(rd env x).cells])
      | false => none
    | none => none) (fun env sto k => ?_) (fun env sto t d h1 _ => ?_) (fun env sto p hp => ?_) rfl
  · unfold evOp; simp only [ho]
    cases look cx.tab ty with
    | none => rfl
    | some e =>
      simp only
      cases fits (rd env x).cells e.size <;> rfl
  · simp only [rd_set h1, left_set h1]
    cases look cx.tab ty with
    | none => rfl
    | some e =>
      simp only
      cases fits (rd env x).cells e.size <;> rfl
  · refine ⟨?_, fun h => by cases h⟩
    split at hp
    · split at hp
      · cases hp; exact .left (fun _ h => h) _
      · cases hp
    · cases hp

theorem foot_store {ty a x} (ho : o.op = .store ty a x) (h : footOf cx all o = some f) : OpFoot cx hc all o f := by
  unfold footOf at h
  rw [ho] at h
  cases h
  refine foot_gen (fun env sto => match look cx.tab ty with
    | some e => match rd env a with
      | .ptr i off => match sto[i]? with
        | some cs => match Nat.ble (off + e.size) cs.length, fits (rd env x).cells e.size with
          | true, true => some (.tup [], left env x, sto.set i (splice cs off (rd env x).cells))
          | _, _ => none
        | none => none
      | _ => none
    | none => none) (fun env sto k => ?_) (fun env sto t d h1 _ => ?_) (fun env sto p hp => ?_) rfl
  · unfold evOp; simp only [ho]
    cases look cx.tab ty with
    | none => rfl
    | some e =>
      generalize rd env a = z
      cases z <;> first
        | rfl
        | skip
      rename_i i off
      simp only
      cases sto[i]? with
      | none => rfl
      | some cs =>
        simp only
        cases Nat.ble (off + e.size) cs.length <;> cases fits (rd env x).cells e.size <;> rfl
  · obtain ⟨ha, hx⟩ := out_app h1
    simp only [rd_set ha, rd_set hx, left_set hx]
    cases look cx.tab ty with
    | none => rfl
    | some e =>
      generalize rd env a = z
      cases z <;> first
        | rfl
        | skip
      rename_i i off
      simp only
      cases sto[i]? with
      | none => rfl
      | some cs =>
        simp only
        cases Nat.ble (off + e.size) cs.length <;> cases fits (rd env x).cells e.size <;> rfl
  · refine ⟨?_, fun h => by cases h⟩
    split at hp
    · split at hp
      · split at hp
        · split at hp
          · cases hp; exact .left (fun _ h => h) _
          · cases hp
        · cases hp
      · cases hp
    · cases hp

/-- Calls to the functions of the list come to one answer, or to none; the calm ones leave the store as it is. -/
def BndOk (cx : Cx) (hc : FuncId → List D → Sto → (D → Sto → Option R) → Option R) : Prop :=
  ∀ f, cx.bnd.any (Nat.beq f) = true → ∀ args sto, ∃ s : Option (D × Sto), (∀ K, hc f args sto K = s.bind fun p => K p.1 p.2) ∧ (cx.calm.any (Nat.beq f) = true → ∀ p, s = some p → p.2 = sto)

theorem bound_fn {l : List Nat} {x : Operand} (h : bound l x = true) : ∃ f, x = .func f ∧ l.any (Nat.beq f) = true := by
  cases x <;> first
    | exact ⟨_, rfl, h⟩
    | cases h

theorem foot_call (hb : BndOk cx hc) {fo args ats} (ho : o.op = .call { callee := .value fo, args, argTypes := ats }) (h : footOf cx all o = some f) : OpFoot cx hc all o f := by
  unfold footOf at h
  rw [ho] at h
  simp only at h
  cases hbd : bound cx.bnd fo with
  | false => rw [hbd] at h; cases h
  | true =>
    rw [hbd] at h
    cases h
    obtain ⟨fn, rfl, hin⟩ := bound_fn hbd
    have hch := fun ds sto => Classical.choose_spec (hb fn hin ds sto)
    let G : List D → Sto → Option (D × Sto) := fun ds sto => Classical.choose (hb fn hin ds sto)
    refine foot_gen (fun env sto => (G ((argsOf env ((look cx.want fn).getD []) 0 args.toList).1 ++ []) sto).map fun p => (p.1, (argsOf env ((look cx.want fn).getD []) 0 args.toList).2, p.2))
      (fun env sto k => ?_) (fun env sto t d h1 _ => ?_) (fun env sto p hp => ?_) rfl
    · unfold evOp; simp only [ho, rd, List.map_nil]
      rw [(hch _ _).1]
      show _ = Option.bind (Option.map _ (G _ _)) _
      cases hG : G ((argsOf env ((look cx.want fn).getD []) 0 args.toList).1 ++ []) sto with
      | none => simp only [G] at hG; rw [hG]; rfl
      | some p => simp only [G] at hG; rw [hG]; rfl
    · have h1' : t ∉ tmpsOf args.toList := (out_app h1).2
      simp only [argsOf_set args.toList 0 env h1']
      cases G ((argsOf env ((look cx.want fn).getD []) 0 args.toList).1 ++ []) sto <;> rfl
    · cases hG : G ((argsOf env ((look cx.want fn).getD []) 0 args.toList).1 ++ []) sto with
      | none => rw [hG] at hp; cases hp
      | some q =>
        rw [hG] at hp; cases hp
        exact ⟨argsOf_chg _ _ _, fun hc => (hch _ sto).2 hc q hG⟩

theorem footOf_ok (hb : BndOk cx hc) (h : footOf cx all o = some f) : OpFoot cx hc all o f := by
  have h0 := h
  unfold footOf at h
  split at h
  · rename_i ho; exact foot_move ho h0
  · rename_i ho; exact foot_assign ho h0
  · rename_i ho; exact foot_pick ho h0
  · rename_i ho; exact foot_nilCheck ho h0
  · rename_i ho; exact foot_binOp ho h0
  · rename_i ho; exact foot_unOp ho h0
  · rename_i ho; exact foot_convert ho h0
  · rename_i ho; exact foot_slice ho h0
  · rename_i ho; exact foot_fieldAddr ho h0
  · rename_i ho; exact foot_field ho h0
  · rename_i ho; exact foot_indexAddr ho h0
  · rename_i ho; exact foot_index ho h0
  · rename_i ho; exact foot_extract ho h0
  · rename_i ho; exact foot_makeFunc ho h0
  · rename_i ho; exact foot_buildSlice ho h0
  · rename_i ho; exact foot_build ho h0
  · rename_i ho; exact foot_load ho h0
  · rename_i ho; exact foot_alloc ho h0
  · rename_i ho; exact foot_box ho h0
  · rename_i ho; exact foot_store ho h0
  · rename_i ho; exact foot_len ho h0
  · rename_i ho; exact foot_append ho h0
  · rename_i ho; exact foot_call hb ho h0
  · cases h

end
end Go.Ev

/-! Two steps that may change places. -/
namespace Go.Ev
section
variable {R : Type} {cx : Cx}

def setAll (env : List D) : List (Nat × D) → List D
  | [] => env
  | (t, d) :: r => setAll (env.set t d) r

theorem setAll_set {t : Nat} {d : D} : ∀ (l : List (Nat × D)) (env : List D), (∀ p, p ∈ l → p.1 ≠ t) → setAll (env.set t d) l = (setAll env l).set t d
  | [], _, _ => rfl
  | (s, e) :: r, env, h => by
    have hne : s ≠ t := h (s, e) (List.mem_cons_self ..)
    simp only [setAll]
    rw [List.set_comm _ _ (Ne.symm hne)]
    exact setAll_set r _ (fun p hp => h p (List.mem_cons_of_mem _ hp))

theorem setAll_comm {m : List (Nat × D)} : ∀ (l : List (Nat × D)) (env : List D), (∀ p, p ∈ l → ∀ q, q ∈ m → q.1 ≠ p.1) → setAll (setAll env l) m = setAll (setAll env m) l
  | [], _, _ => rfl
  | (t, d) :: r, env, h => by
    simp only [setAll]
    rw [setAll_comm r _ (fun p hp q hq => h p (List.mem_cons_of_mem _ hp) q hq), setAll_set m env (fun q hq => h (t, d) (List.mem_cons_self ..) q hq)]

theorem chg_setAll {env' : List D} : ∀ (S : List Nat) (env : List D), Chg S env env' → env' = setAll env (S.map fun t => (t, env'.getD t .any))
  | [], env, h => by
    show env' = env
    exact List.ext_getElem? (fun i => h.2 i (by simp))
  | t :: r, env, h => by
    simp only [List.map_cons, setAll]
    refine chg_setAll r _ ⟨by simp [h.1], fun s hs => ?_⟩
    by_cases e : t = s
    · subst e
      rw [List.getElem?_set_self']
      rcases Nat.lt_or_ge t env.length with hl | hl
      · have hl' : t < env'.length := h.1 ▸ hl
        simp [hl, hl', List.getD]
      · rw [List.getElem?_eq_none hl, List.getElem?_eq_none (h.1 ▸ hl)]; rfl
    · rw [List.getElem?_set_ne e]
      exact h.2 s (by simp only [List.mem_cons, not_or]; exact ⟨fun e' => e e'.symm, hs⟩)

structure XFoot (rd wr : List Nat) (calm apart : Bool) (Y : St → (St → Option R) → Option R) : Prop where
  nf : ∀ st, NF wr calm st (Y st)
  loc : ∀ (t : Nat) d env sto k, t ∉ rd → t ∉ wr → Y ⟨env.set t d, sto⟩ k = Y ⟨env, sto⟩ (fun st' => k ⟨st'.env.set t d, st'.sto⟩)
  sf : apart = true → ∀ env sto sto' k, Y ⟨env, sto'⟩ k = Y ⟨env, sto⟩ (fun st' => k ⟨st'.env, sto'⟩)
  ac : apart = true → calm = true

theorem XFoot.locAll {rd wr calm apart} {Y : St → (St → Option R) → Option R} (h : XFoot rd wr calm apart Y) : ∀ (l : List (Nat × D)) (env : List D) (sto : Sto) (k : St → Option R), (∀ p, p ∈ l → p.1 ∉ rd ∧ p.1 ∉ wr) →
    Y ⟨setAll env l, sto⟩ k = Y ⟨env, sto⟩ (fun st' => k ⟨setAll st'.env l, st'.sto⟩)
  | [], _, _, _, _ => rfl
  | (t, d) :: r, env, sto, k, hl => by
    simp only [setAll]
    rw [h.locAll r _ sto k (fun p hp => hl p (List.mem_cons_of_mem _ hp)), h.loc t d env sto _ (hl (t, d) (List.mem_cons_self ..)).1 (hl (t, d) (List.mem_cons_self ..)).2]

theorem XFoot.step {rd wr calm apart} {Y : St → (St → Option R) → Option R} (h : XFoot rd wr calm apart Y) {env : List D} {sto : Sto} {k : St → Option R} {r : R} (hk : Y ⟨env, sto⟩ k = some r) :
    ∃ (l : List (Nat × D)) (sto' : Sto), (∀ p, p ∈ l → p.1 ∈ wr) ∧ (∀ k, Y ⟨env, sto⟩ k = k ⟨setAll env l, sto'⟩) ∧ (calm = true → sto' = sto) := by
  obtain ⟨s, hs, hc⟩ := h.nf ⟨env, sto⟩
  cases s with
  | none => rw [hs] at hk; cases hk
  | some st' =>
    obtain ⟨h1, h2⟩ := hc st' rfl
    refine ⟨wr.map fun t => (t, st'.env.getD t .any), st'.sto, fun p hp => ?_, fun k => ?_, h2⟩
    · obtain ⟨t, ht, rfl⟩ := List.mem_map.1 hp; exact ht
    · rw [hs, ← chg_setAll wr env h1]; rfl

theorem XFoot.swap {rp wp cp ap ro wo co ao} {A B : St → (St → Option R) → Option R} (hA : XFoot rp wp cp ap A) (hB : XFoot ro wo co ao B)
    (h1 : ∀ t, t ∈ wp → t ∉ ro ∧ t ∉ wo) (h2 : ∀ t, t ∈ wo → t ∉ rp ∧ t ∉ wp) (h3 : ap = true ∨ ao = true ∨ (cp = true ∧ co = true)) {st : St} {k : St → Option R} {r : R}
    (h : A st (fun st' => B st' k) = some r) : B st (fun st' => A st' k) = some r := by
  obtain ⟨env, sto⟩ := st
  obtain ⟨m, stoA, hm, hAk, hAc⟩ := hA.step h
  rw [hAk] at h
  rw [hB.locAll m env stoA k (fun p hp => h1 _ (hm p hp))] at h
  have hdis : ∀ (l : List (Nat × D)), (∀ p, p ∈ l → p.1 ∈ wo) → ∀ p, p ∈ l → ∀ q, q ∈ m → q.1 ≠ p.1 := fun l hl p hp q hq e => (h1 _ (hm q hq)).2 (e ▸ hl p hp)
  rcases h3 with hap | hao | ⟨hcp, hco⟩
  · have hsA := hAc (hA.ac hap)
    subst hsA
    obtain ⟨l, stoB, hl, hBk, _⟩ := hB.step h
    rw [hBk] at h ⊢
    rw [hA.locAll l env stoB k (fun p hp => h2 _ (hl p hp)), hA.sf hap env stoA stoB, hAk]
    dsimp only at h ⊢
    rw [setAll_comm l env (hdis l hl)] at h
    exact h
  · rw [hB.sf hao env sto stoA] at h
    obtain ⟨l, stoB, hl, hBk, hBc⟩ := hB.step h
    have hsB := hBc (hB.ac hao)
    subst hsB
    rw [hBk] at h ⊢
    rw [hA.locAll l env stoB k (fun p hp => h2 _ (hl p hp)), hAk]
    dsimp only at h ⊢
    rw [setAll_comm l env (hdis l hl)] at h
    exact h
  · have hsA := hAc hcp
    subst hsA
    obtain ⟨l, stoB, hl, hBk, hBc⟩ := hB.step h
    have hsB := hBc hco
    subst hsB
    rw [hBk] at h ⊢
    rw [hA.locAll l env stoB k (fun p hp => h2 _ (hl p hp)), hAk]
    dsimp only at h ⊢
    rw [setAll_comm l env (hdis l hl)] at h
    exact h

end
end Go.Ev

/-! Regions whose order is open. -/
namespace Go.Ev
section
variable {P : Program} {X : Cfg} {R : Type} {cx : Cx}
variable {hc : FuncId → List D → Sto → (D → Sto → Option R) → Option R}

theorem set_same {env : List D} {d : Nat} {v : D} (h : env.getD d .any = v) (hv : v ≠ .any) : env.set d v = env := by
  have hd : d < env.length := by
    rcases Nat.lt_or_ge d env.length with h' | h'
    · exact h'
    · rw [getD_out h'] at h; exact absurd h.symm hv
  have he : env[d]? = some v := by rw [rd_tmp_get hd, h]
  apply List.ext_getElem?; intro i
  by_cases e : d = i
  · subst e; rw [List.getElem?_set_self hd, he]
  · rw [List.getElem?_set_ne e]

/-- The guard without what it lays. -/
def guardW (d : Nat) (want : Bool) (st : St) (run skip : St → Option R) : Option R :=
  match st.env.getD d .any with
  | .bool b => match b == want with
    | true => run st
    | false => skip st
  | .tup [] => skip st
  | _ => none

theorem guardK_eq {o : Oper} {ops : Array Oper} {j : Nat} {want : Bool} {d : Tmp} (hg : o.guard = some (j, want)) (hd : dstOf ops j = some d) (st : St) (run skip : St → Option R) :
    guardK o ops st run skip = guardW d want st run skip := by
  obtain ⟨env, sto⟩ := st
  unfold guardK guardW
  rw [hg]
  dsimp only
  rw [hd]
  dsimp only
  generalize he : env.getD d .any = z
  cases z <;> first
    | rfl
    | (rename_i cs; cases cs <;> rfl)
    | skip
  rename_i b
  have hs : env.set d (.bool b) = env := set_same he (by intro h; cases h)
  cases b <;> cases want <;> simp only [hs] <;> rfl

theorem NF.skip {S : List Nat} {calm : Bool} {st : St} {o : Option Tmp} (h : ∀ t, t ∈ dstT o → t ∈ S) : NF (R := R) S calm st fun k => k { st with env := put st.env o (.tup []) } :=
  ⟨some _, fun _ => rfl, fun st' e => by cases e; exact ⟨.put h _ _, fun _ => rfl⟩⟩

/-- An operation behind its guard. -/
theorem gOp_foot {ops : Array Oper} {o : Oper} {f : Foot} (h : OpFoot cx hc ops.toList o f) (hac : f.apart = true → f.calm = true) : XFoot (guardT ops o ++ f.rd) (dstT o.dst ++ f.wr) f.calm f.apart (gOp cx hc ops o) := by
  have hd : ∀ t, t ∈ dstT o.dst → t ∈ dstT o.dst ++ f.wr := fun t h => List.mem_append_left _ h
  unfold gOp
  cases hg : o.guard with
  | none =>
    have e : ∀ st (run skip : St → Option R), guardK o ops st run skip = run st := fun st run skip => by unfold guardK; rw [hg]
    refine ⟨fun st => ?_, fun t d env sto k h1 h2 => ?_, fun hap env sto sto' k => ?_, hac⟩
    · simp only [e]; exact h.nf st
    · simp only [e]
      exact h.loc t d env sto k (fun h' => h1 (List.mem_append_right _ h')) (fun h' => h2 (List.mem_append_left _ h')) (fun h' => h2 (List.mem_append_right _ h'))
    · simp only [e]; exact h.sf hap env sto sto' k
  | some jw =>
    obtain ⟨j, want⟩ := jw
    cases hj : dstOf ops j with
    | none =>
      have e : ∀ st (run skip : St → Option R), guardK o ops st run skip = none := fun st run skip => by unfold guardK; rw [hg]; simp only [hj]
      refine ⟨fun st => ?_, fun t d env sto k h1 h2 => ?_, fun hap env sto sto' k => ?_, hac⟩
      · simp only [e]; exact ⟨none, fun _ => rfl, fun _ h => by cases h⟩
      · simp only [e]
      · simp only [e]
    | some d0 =>
      have hgt : guardT ops o = [d0] := by simp [guardT, hg, hj]
      refine ⟨fun st => ?_, fun t d env sto k h1 h2 => ?_, fun hap env sto sto' k => ?_, hac⟩
      · simp only [guardK_eq hg hj, guardW]
        cases hz : st.env.getD d0 .any with
        | bool b =>
          cases hb : (b == want)
          · simp only [hb]; exact .skip hd
          · simp only [hb]; exact h.nf st
        | tup cs =>
          cases cs with
          | nil => exact .skip hd
          | cons c r => exact ⟨none, fun _ => rfl, fun _ h => by cases h⟩
        | _ => exact ⟨none, fun _ => rfl, fun _ h => by cases h⟩
      · have ht0 : t ≠ d0 := fun e => h1 (by rw [hgt, e]; simp)
        have hrd : (env.set t d).getD d0 .any = env.getD d0 .any := by simp [List.getD, List.getElem?_set_ne ht0]
        simp only [guardK_eq hg hj, guardW, hrd]
        have hsk : put (env.set t d) o.dst (.tup []) = (put env o.dst (.tup [])).set t d := put_set (fun h' => h2 (List.mem_append_left _ h'))
        cases hz : env.getD d0 .any with
        | bool b =>
          cases hb : (b == want)
          · simp only [hb, hsk]
          · simp only [hb]; exact h.loc t d env sto k (fun h' => h1 (List.mem_append_right _ h')) (fun h' => h2 (List.mem_append_left _ h')) (fun h' => h2 (List.mem_append_right _ h'))
        | tup cs =>
          cases cs with
          | nil => simp only [hsk]
          | cons c r => rfl
        | _ => rfl
      · simp only [guardK_eq hg hj, guardW]
        cases hz : env.getD d0 .any with
        | bool b =>
          cases hb : (b == want)
          · simp only [hb]
          · simp only [hb]; exact h.sf hap env sto sto' k
        | tup cs =>
          cases cs with
          | nil => rfl
          | cons c r => rfl
        | _ => rfl

theorem foot_ac {all : List Oper} {o : Oper} {f : Foot} (h : footOf cx all o = some f) : f.apart = true → f.calm = true := by
  unfold footOf at h
  split at h <;> first
    | (cases h; intro _; rfl)
    | (cases h; intro h; cases h)
    | (split at h <;> first
        | (cases h; intro _; rfl)
        | (cases h; intro h; cases h)
        | cases h)
    | cases h

theorem not_hasT {l : List Nat} {t : Nat} (h : hasT l t = false) : t ∉ l := by
  intro hm
  have : hasT l t = true := List.any_eq_true.2 ⟨t, hm, Nat.beq_refl t⟩
  rw [this] at h; cases h

theorem dis_spec {a b : List Nat} (h : dis a b = true) : ∀ t, t ∈ a → t ∉ b := fun t ht => not_hasT (by
  have := List.all_eq_true.1 h t ht
  simpa using this)

theorem load_grow {all : List Oper} {o : Oper} {f : Foot} {ty x} (ho : o.op = .load ty x) (hf : footOf cx all o = some f) (hcalm : f.calm = true) {env : List D} {sto : Sto} {c : List D} {k0 : St → Option R} {r : R}
    (h : evOp cx hc all o ⟨env, sto⟩ k0 = some r) (k : St → Option R) : evOp cx hc all o ⟨env, sto ++ [c]⟩ k = evOp cx hc all o ⟨env, sto⟩ (fun st' => k ⟨st'.env, sto ++ [c]⟩) := by
  have hs : stealsTy cx o.type all o.dst = false := by
    unfold footOf at hf
    rw [ho] at hf
    simp only at hf
    cases hs : stealsTy cx o.type all o.dst
    · rfl
    · rw [hs] at hf; cases hf; cases hcalm
  unfold evOp at h ⊢
  simp only [ho, hs] at h ⊢
  cases hl : look cx.tab ty with
  | none => rfl
  | some e =>
    simp only [hl] at h ⊢
    generalize rd env x = z at h
    cases z <;> first
      | rfl
      | skip
    · rename_i i off
      simp only at h ⊢
      cases hi : sto[i]? with
      | none => rw [hi] at h; cases h
      | some cs =>
        have hlt : i < sto.length := by
          rcases Nat.lt_or_ge i sto.length with h' | h'
          · exact h'
          · rw [List.getElem?_eq_none h'] at hi; cases hi
        rw [List.getElem?_append_left hlt, hi]
        simp only
        cases Nat.ble (off + e.size) cs.length
        · rfl
        · cases e.agg <;> cases (cs.getD off .any).leaf <;> rfl

theorem alloc_form {all : List Oper} {o : Oper} {ty} (ho : o.op = .alloc ty) {env : List D} {sto : Sto} {k0 : St → Option R} {r : R}
    (h : evOp cx hc all o ⟨env, sto⟩ k0 = some r) : ∃ c, ∀ (env : List D) (k : St → Option R), evOp cx hc all o ⟨env, sto⟩ k = k ⟨put env o.dst (.ptr sto.length 0), sto ++ [c]⟩ := by
  unfold evOp at h
  simp only [ho] at h
  cases hl : look cx.tab ty with
  | none => rw [hl] at h; cases h
  | some e =>
    rw [hl] at h
    obtain ⟨_, _, _, _, _, z⟩ := e
    cases z with
    | nil => cases h
    | cons c cs => exact ⟨c :: cs, fun env k => by unfold evOp; simp only [ho, hl]⟩

theorem grow_swap {ops : Array Oper} (hb : BndOk cx hc) {p o : Oper} {fp : Foot} (hp : footOf cx ops.toList p = some fp) (hg : growB p o = true) (hcalm : fp.calm = true)
    (h2 : ∀ t, t ∈ dstT o.dst → t ∉ guardT ops p ++ fp.rd ∧ t ∉ dstT p.dst ++ fp.wr)
    {st : St} {k : St → Option R} {r : R} (h : gOp cx hc ops p st (fun st' => gOp cx hc ops o st' k) = some r) : gOp cx hc ops o st (fun st' => gOp cx hc ops p st' k) = some r := by
  have hA := gOp_foot (R := R) (footOf_ok hb hp) (foot_ac hp)
  unfold growB at hg
  split at hg
  case h_2 => cases hg
  rename_i ty x ty' hpo hoo
  simp only [Bool.and_eq_true, Option.isNone_iff_eq_none] at hg
  obtain ⟨env, sto⟩ := st
  obtain ⟨m, stoA, hm, hAk, hAc⟩ := hA.step h
  have := hAc hcalm
  subst this
  rw [hAk] at h
  have eo : ∀ st (k : St → Option R), gOp cx hc ops o st k = evOp cx hc ops.toList o st k := fun st k => by unfold gOp guardK; rw [hg.2]
  have ep : ∀ st (k : St → Option R), gOp cx hc ops p st k = evOp cx hc ops.toList p st k := fun st k => by unfold gOp guardK; rw [hg.1]
  rw [eo] at h
  obtain ⟨c, hc'⟩ := alloc_form hoo h
  rw [hc'] at h
  rw [eo, hc']
  have hgrow : ∀ k : St → Option R, gOp cx hc ops p ⟨env, stoA ++ [c]⟩ k = k ⟨setAll env m, stoA ++ [c]⟩ := fun k => by
    have hs : evOp cx hc ops.toList p ⟨env, stoA⟩ (fun _ => some r) = some r := by rw [← ep, hAk]
    rw [ep, load_grow hpo hp hcalm hs k, ← ep, hAk]
  cases hd : o.dst with
  | none => rw [hd] at h; exact (hgrow k).trans h
  | some t =>
    rw [hd] at h h2
    obtain ⟨h3, h4⟩ := h2 t (by simp [dstT])
    show gOp cx hc ops p ⟨env.set t (.ptr stoA.length 0), stoA ++ [c]⟩ k = some r
    rw [hA.loc t _ env _ k h3 h4, hgrow]
    have e : put (setAll env m) (some t) (.ptr stoA.length 0) = (setAll env m).set t (.ptr stoA.length 0) := rfl
    rw [e] at h
    exact h

theorem comm_swap {ops : Array Oper} (hb : BndOk cx hc) {p o : Oper} {fp fo : Foot} (hp : footOf cx ops.toList p = some fp) (ho : footOf cx ops.toList o = some fo) (h : commB ops p o fp fo = true)
    {st : St} {k : St → Option R} {r : R} (hk : gOp cx hc ops p st (fun st' => gOp cx hc ops o st' k) = some r) : gOp cx hc ops o st (fun st' => gOp cx hc ops p st' k) = some r := by
  unfold commB at h
  simp only [Bool.and_eq_true, Bool.or_eq_true] at h
  obtain ⟨⟨h1, h2⟩, h3⟩ := h
  have d1 := dis_spec h1
  have d2 := dis_spec h2
  rcases h3 with h3 | ⟨h3, h4⟩
  case inr =>
    exact grow_swap hb hp h4 h3 (fun t ht => by
      have := d2 t (List.mem_append_left _ ht)
      simp only [List.mem_append, not_or] at this ⊢
      exact ⟨⟨this.1.1.1, this.1.1.2⟩, this.1.2, this.2⟩) hk
  refine XFoot.swap (gOp_foot (footOf_ok hb hp) (foot_ac hp)) (gOp_foot (footOf_ok hb ho) (foot_ac ho)) (fun t ht => ?_) (fun t ht => ?_) ?_ hk
  · have := d1 t ht
    simp only [List.mem_append, not_or] at this ⊢
    exact ⟨⟨this.1.1.1, this.1.1.2⟩, this.1.2, this.2⟩
  · have := d2 t ht
    simp only [List.mem_append, not_or] at this ⊢
    exact ⟨⟨this.1.1.1, this.1.1.2⟩, this.1.2, this.2⟩
  · rcases h3 with (h3 | h3) | h3
    · exact .inl h3
    · exact .inr (.inl h3)
    · exact .inr (.inr h3)

/-! ### Which operation waits for which -/

theorem edgeMask_spec {acc : List Nat} {p : Nat} : ∀ {es : List Edge}, (edgeMask acc es).testBit p = true → ∃ e ∈ es, Region.binds .any e = true ∧ (e.on = p ∨ (acc.getD e.on 0).testBit p = true)
  | [], h => by simp [edgeMask] at h
  | e :: r, h => by
    unfold edgeMask at h
    split at h
    · rename_i hb
      simp only [Nat.testBit_or, Bool.or_eq_true] at h
      rcases h with (h | h) | h
      · refine ⟨e, List.mem_cons_self .., hb, .inl ?_⟩
        rw [Nat.testBit_two_pow] at h
        simpa using h
      · exact ⟨e, List.mem_cons_self .., hb, .inr h⟩
      · obtain ⟨e', he, hx⟩ := edgeMask_spec h
        exact ⟨e', List.mem_cons_of_mem _ he, hx⟩
    · obtain ⟨e', he, hx⟩ := edgeMask_spec h
      exact ⟨e', List.mem_cons_of_mem _ he, hx⟩

theorem masks_pre : ∀ (l : List Oper) (acc : List Nat), ∃ t, masks acc l = acc ++ t ∧ t.length = l.length
  | [], acc => ⟨[], by simp [masks]⟩
  | o :: r, acc => by
    obtain ⟨t, h1, h2⟩ := masks_pre r (acc ++ [edgeMask acc o.after.toList])
    exact ⟨edgeMask acc o.after.toList :: t, by simp [masks, h1], by simp [h2]⟩

theorem masks_get : ∀ (l : List Oper) (acc : List Nat) (i : Nat) o, l[i]? = some o → (masks acc l)[acc.length + i]? = some (edgeMask ((masks acc l).take (acc.length + i)) o.after.toList)
  | [], acc, i, o, h => by simp at h
  | o0 :: r, acc, 0, o, h => by
    simp at h; subst h
    simp only [masks]
    obtain ⟨t, h1, _⟩ := masks_pre r (acc ++ [edgeMask acc o0.after.toList])
    rw [h1]; simp
  | o0 :: r, acc, i + 1, o, h => by
    simp only [masks]
    have := masks_get r (acc ++ [edgeMask acc o0.after.toList]) i o (by simpa using h)
    simp only [List.length_append, List.length_singleton] at this
    rw [show acc.length + 1 + i = acc.length + (i + 1) by omega] at this
    exact this

/-- What the check says. -/
structure DrawOk (cx : Cx) (ops : Array Oper) : Prop where
  foot : ∀ (i : Nat) o, ops[i]? = some o → ∃ fo, footOf cx ops.toList o = some fo
  topo : ∀ (i : Nat) o, ops[i]? = some o → ∀ e ∈ o.after, Region.binds .any e = true → e.on < i
  row : ∀ (i p : Nat) o po fo fp, ops[i]? = some o → p < i → ops[p]? = some po → footOf cx ops.toList o = some fo → footOf cx ops.toList po = some fp →
    ((masks [] ops.toList).getD i 0).testBit p = true ∨ commB ops po o fp fo = true

theorem rowB_get {ops : Array Oper} {o : Oper} {fo : Foot} {m : Nat} : ∀ {l : List (Oper × Option Foot)} {p0 : Nat}, rowB ops o fo m p0 l = true → ∀ (j : Nat) po fpo, l[j]? = some (po, fpo) → ∃ fp, fpo = some fp ∧ (m.testBit (p0 + j) = true ∨ commB ops po o fp fo = true)
  | [], p0, _, j, po, fpo, h => by simp at h
  | (po0, some fp0) :: r, p0, h, j, po, fpo, hj => by
    simp only [rowB, Bool.and_eq_true, Bool.or_eq_true] at h
    cases j with
    | zero => simp at hj; obtain ⟨rfl, rfl⟩ := hj; exact ⟨fp0, rfl, h.1⟩
    | succ j =>
      obtain ⟨fp, h1, h2⟩ := rowB_get h.2 j po fpo (by simpa using hj)
      exact ⟨fp, h1, by rwa [show p0 + (j + 1) = p0 + 1 + j by omega]⟩
  | (_, none) :: r, p0, h, j, po, fpo, hj => by simp [rowB] at h

theorem rowsB_get {ops : Array Oper} {fs : List (Oper × Option Foot)} : ∀ {l : List (Oper × Option Foot)} {ms : List Nat} {i0 : Nat}, rowsB ops fs i0 l ms = true → ∀ (j : Nat) o fo', l[j]? = some (o, fo') →
    ∃ fo m, fo' = some fo ∧ ms[j]? = some m ∧ (o.after.toList.all fun e => !(Region.binds .any e) || Nat.blt e.on (i0 + j)) = true ∧ rowB ops o fo m 0 (fs.take (i0 + j)) = true
  | [], ms, i0, _, j, o, fo', h => by simp at h
  | (o0, some fo0) :: r, [], i0, h, j, o, fo', hj => by simp [rowsB] at h
  | (o0, some fo0) :: r, m :: ms, i0, h, j, o, fo', hj => by
    simp only [rowsB, Bool.and_eq_true] at h
    cases j with
    | zero => simp at hj; obtain ⟨rfl, rfl⟩ := hj; exact ⟨fo0, m, rfl, rfl, h.1, h.2.1⟩
    | succ j =>
      obtain ⟨fo, m', h1, h2, h3, h4⟩ := rowsB_get h.2.2 j o fo' (by simpa using hj)
      rw [show i0 + 1 + j = i0 + (j + 1) by omega] at h3 h4
      exact ⟨fo, m', h1, by simpa using h2, h3, h4⟩
  | (_, none) :: r, ms, i0, h, j, o, fo', hj => by cases ms <;> simp [rowsB] at h

theorem okDraw_spec {ops : Array Oper} (h : okDraw cx ops = true) : DrawOk cx ops := by
  unfold okDraw at h
  have get : ∀ (i : Nat) o, ops[i]? = some o → (ops.toList.map fun o => (o, footOf cx ops.toList o))[i]? = some (o, footOf cx ops.toList o) := by
    intro i o hi; simp [hi]
  refine ⟨fun i o hi => ?_, fun i o hi e he hb => ?_, fun i p o po fo fp hi hp hpo hfo hfp => ?_⟩
  · obtain ⟨fo, _, h1, _⟩ := rowsB_get h i o _ (get i o hi)
    exact ⟨fo, h1⟩
  · obtain ⟨fo, _, _, _, h3, _⟩ := rowsB_get h i o _ (get i o hi)
    have := List.all_eq_true.1 h3 e (Array.mem_toList_iff.2 he)
    simp only [hb, Bool.not_true, Bool.false_or, Nat.zero_add] at this
    exact Nat.le_of_ble_eq_true this
  · obtain ⟨fo', m, h1, h2, _, h4⟩ := rowsB_get h i o _ (get i o hi)
    rw [hfo] at h1; cases h1
    have hpt : ((ops.toList.map fun o => (o, footOf cx ops.toList o)).take (0 + i))[p]? = some (po, footOf cx ops.toList po) := by
      rw [List.getElem?_take, if_pos (by omega)]; exact get p po hpo
    obtain ⟨fp', h5, h6⟩ := rowB_get h4 p po _ hpt
    rw [hfp] at h5; cases h5
    rw [Nat.zero_add] at h6
    rcases h6 with h6 | h6
    · left; simp only [List.getD, h2]; exact h6
    · exact .inr h6

/-! ### All orders -/

/-- Operations by their numbers, one after another. -/
def seqI (cx : Cx) (hc : FuncId → List D → Sto → (D → Sto → Option R) → Option R) (ops : Array Oper) : List Nat → St → (St → Option R) → Option R
  | [], st, k => k st
  | i :: r, st, k => match ops[i]? with
    | some o => gOp cx hc ops o st fun st' => seqI cx hc ops r st' k
    | none => seqI cx hc ops r st k

theorem evOps_seqI {ops : Array Oper} {k : St → Option R} : ∀ (l : List Oper) (n : Nat) (st : St), (∀ (j : Nat), ops[n + j]? = l[j]?) → evOps cx hc ops l st k = seqI cx hc ops (List.range' n l.length) st k
  | [], n, st, _ => rfl
  | o :: r, n, st, h => by
    have h0 : ops[n]? = some o := by simpa using h 0
    have ih : ∀ st, evOps cx hc ops r st k = seqI cx hc ops (List.range' (n + 1) r.length) st k := fun st => evOps_seqI r (n + 1) st (fun j => by
      have := h (j + 1)
      rw [show n + (j + 1) = n + 1 + j by omega] at this
      simpa using this)
    simp only [evOps, List.length_cons, List.range'_succ, seqI, h0, ih]

theorem gOp_some {ops : Array Oper} {o : Oper} {f : Foot} (hb : BndOk cx hc) (ho : footOf cx ops.toList o = some f) {st : St} {k : St → Option R} {r : R} (h : gOp cx hc ops o st k = some r) :
    ∃ st', k st' = some r ∧ ∀ k, gOp cx hc ops o st k = k st' := by
  obtain ⟨s, hs, _⟩ := (gOp_foot (footOf_ok hb ho) (foot_ac ho)).nf st
  cases s with
  | none => rw [hs] at h; cases h
  | some st' => rw [hs] at h; exact ⟨st', h, fun k => hs k⟩

theorem pull {ops : Array Oper} (hb : BndOk cx hc) {i : Nat} {o : Oper} {fo : Foot} (hi : ops[i]? = some o) (ho : footOf cx ops.toList o = some fo) {post : List Nat} {k : St → Option R} {r : R} :
    ∀ (pre : List Nat), (∀ p, p ∈ pre → ∀ po, ops[p]? = some po → ∃ fp, footOf cx ops.toList po = some fp ∧ commB ops po o fp fo = true) → ∀ st, seqI cx hc ops (pre ++ i :: post) st k = some r →
      gOp cx hc ops o st (fun st' => seqI cx hc ops (pre ++ post) st' k) = some r
  | [], _, st, h => by simpa [seqI, hi] using h
  | p :: pre, hp, st, h => by
    have hp' := fun q hq => hp q (List.mem_cons_of_mem _ hq)
    simp only [List.cons_append, seqI] at h ⊢
    cases hpo : ops[p]? with
    | none =>
      simp only [hpo] at h ⊢
      exact pull hb hi ho pre hp' st h
    | some po =>
      simp only [hpo] at h ⊢
      obtain ⟨fp, hfp, hcm⟩ := hp p (List.mem_cons_self ..) po hpo
      obtain ⟨st1, h1, h2⟩ := gOp_some hb hfp h
      have h3 := pull hb hi ho pre hp' st1 h1
      refine comm_swap hb hfp ho hcm ?_
      rw [h2]
      exact h3

def rem (n : Nat) (listed : Array Bool) : List Nat := (List.range n).filter fun i => !listed.getD i true

theorem mem_rem {n i : Nat} {listed : Array Bool} : i ∈ rem n listed ↔ i < n ∧ listed.getD i true = false := by
  simp [rem]

theorem rem_split {n i : Nat} {listed : Array Bool} (hi : i < n) (hl : listed.getD i true = false) (hs : listed.size = n) :
    ∃ pre post, rem n listed = pre ++ i :: post ∧ rem n (listed.setIfInBounds i true) = pre ++ post ∧ ∀ p, p ∈ pre → p < i ∧ listed.getD p true = false := by
  obtain ⟨m, rfl⟩ : ∃ m, n = i + (1 + m) := ⟨n - i - 1, by omega⟩
  let fl : Nat → Bool := fun i => !listed.getD i true
  have hr : List.range (i + (1 + m)) = List.range i ++ i :: (List.range m).map (fun x => i + (1 + x)) := by
    rw [List.range_add, List.range_add]
    simp [List.map_map, Function.comp_def]
  refine ⟨(List.range i).filter fl, ((List.range m).map (fun x => i + (1 + x))).filter fl, ?_, ?_, fun p hp => ?_⟩
  · unfold rem
    rw [hr, List.filter_append, List.filter_cons]
    simp only [hl, Bool.not_false, if_true]
    rfl
  · unfold rem
    rw [hr, List.filter_append, List.filter_cons]
    have h1 : (!(listed.setIfInBounds i true).getD i true) = false := by
      have : i < listed.size := by omega
      simp [this]
    rw [h1]
    simp only [Bool.false_eq_true, if_false]
    congr 1
    · refine List.filter_congr (fun x hx => ?_)
      have : i ≠ x := by have := List.mem_range.1 hx; omega
      simp only [fl, getD_set_ne true this]
    · refine List.filter_congr (fun x hx => ?_)
      obtain ⟨y, _, rfl⟩ := List.mem_map.1 hx
      have : i ≠ i + (1 + y) := by omega
      simp only [fl, getD_set_ne true this]
  · simp only [List.mem_filter, List.mem_range, fl, Bool.not_eq_true'] at hp
    exact hp

def Closed (ops : Array Oper) (listed : Array Bool) : Prop :=
  ∀ (i : Nat) o, ops[i]? = some o → listed.getD i false = true → ∀ e ∈ o.after, Region.binds .any e = true → listed.getD e.on false = true

theorem anc_listed {ops : Array Oper} {listed : Array Bool} (hcl : Closed ops listed) : ∀ (i : Nat) o, ops[i]? = some o → (∀ e ∈ o.after, Region.binds .any e = true → listed.getD e.on false = true) →
    ∀ p, ((masks [] ops.toList).getD i 0).testBit p = true → listed.getD p false = true := by
  intro i
  induction i using Nat.strongRecOn with
  | _ i ih =>
    intro o hi hready p hp
    have hm := masks_get ops.toList [] i o (by simpa using hi)
    simp only [List.length_nil, Nat.zero_add] at hm
    rw [List.getD, hm, Option.getD_some] at hp
    obtain ⟨e, he, hb, h⟩ := edgeMask_spec hp
    have hle := hready e (Array.mem_toList_iff.1 he) hb
    rcases h with h | h
    · exact h ▸ hle
    · have hlt : e.on < i := by
        rcases Nat.lt_or_ge e.on i with h' | h'
        · exact h'
        · exfalso
          rw [List.getD, List.getElem?_eq_none (by simp only [List.length_take]; omega)] at h
          simp at h
      rw [List.getD, List.getElem?_take, if_pos hlt] at h
      cases ho : ops[e.on]? with
      | none =>
        exfalso
        have h1 : i < ops.size := (Array.getElem?_eq_some_iff.1 hi).1
        have h2 : ops.size ≤ e.on := by simpa using ho
        omega
      | some oe => exact ih e.on hlt oe ho (hcl e.on oe ho hle) p h

theorem any_sound (hcx : CxOk P X cx) (hok : HcOk P X hc) (hb : BndOk cx hc) {ops : Array Oper} (hd : DrawOk cx ops) {Q : Exit → Act → World → Prop} {k : St → Option R} {r : R} {g0 : Gh} {w0 : World}
    (hq : ∀ a' w' g' env' sto', k ⟨env', sto'⟩ = some r → Sim X g' w' env' a'.tmps.toList sto' → Ext g0 w0 g' w' → a'.defers = [] → Q .normal a' w') :
    ∀ (fuel : Nat) (listed : Array Bool) (env : List D) (sto : Sto) (a : Act) (w : World) (g : Gh), Closed ops listed → listed.size = ops.size → (rem ops.size listed).length ≤ fuel → seqI cx hc ops (rem ops.size listed) ⟨env, sto⟩ k = some r →
      Sim X g w env a.tmps.toList sto → Ext g0 w0 g w → a.defers = [] → wpAny P .any ops Q fuel listed a w := by
  have done : ∀ (listed : Array Bool) (env : List D) (sto : Sto) (a : Act) (w : World) (g : Gh), listed.size = ops.size → Region.ready .any ops listed = [] → seqI cx hc ops (rem ops.size listed) ⟨env, sto⟩ k = some r →
      Sim X g w env a.tmps.toList sto → Ext g0 w0 g w → a.defers = [] → Q .normal a w := by
    intro listed env sto a w g hsz hr h hs e hdf
    cases hrem : rem ops.size listed with
    | nil => rw [hrem] at h; exact hq _ _ _ _ _ h hs e hdf
    | cons i rest =>
      exfalso
      -- the least number that is left may come up
      have hi := mem_rem.1 (show i ∈ rem ops.size listed by rw [hrem]; exact List.mem_cons_self ..)
      have hmin : ∀ j, j < i → listed.getD j false = true := by
        intro j hj
        cases hlj : listed.getD j true with
        | true =>
          have : j < listed.size := by omega
          simp only [Array.getD, this, dif_pos] at hlj ⊢
          exact hlj
        | false =>
          exfalso
          obtain ⟨pre, post, h1, _, h3⟩ := rem_split hi.1 hi.2 hsz
          have hjm : j ∈ rem ops.size listed := mem_rem.2 ⟨by omega, hlj⟩
          rw [h1] at hrem
          cases pre with
          | cons p pre =>
            simp only [List.cons_append, List.cons.injEq] at hrem
            have := (h3 p (List.mem_cons_self ..)).1
            omega
          | nil =>
            have hsorted : (rem ops.size listed).Pairwise (· < ·) := List.Pairwise.filter _ List.pairwise_lt_range
            rw [h1] at hjm hsorted
            simp only [List.nil_append, List.mem_cons] at hjm hsorted
            rcases hjm with rfl | hjm
            · omega
            · have := (List.pairwise_cons.1 hsorted).1 j hjm; omega
      have hio : ops[i]? = some ops[i] := by simp [hi.1]
      have : i ∈ Region.ready .any ops listed := mem_ready.2 ⟨hi.2, ops[i], hio, fun e he hbd => hmin e.on (hd.topo i _ hio e he hbd)⟩
      rw [hr] at this; cases this
  intro fuel
  induction fuel with
  | zero =>
    intro listed env sto a w g hcl hsz hf h hs e hdf
    have h0 : rem ops.size listed = [] := List.eq_nil_of_length_eq_zero (by omega)
    have hr : Region.ready .any ops listed = [] := by
      cases hr : Region.ready .any ops listed with
      | nil => rfl
      | cons i rest =>
        have hi : i ∈ Region.ready .any ops listed := by rw [hr]; exact List.mem_cons_self ..
        obtain ⟨h1, o, ho, _⟩ := mem_ready.1 hi
        have : i ∈ rem ops.size listed := mem_rem.2 ⟨(Array.getElem?_eq_some_iff.1 ho).1, h1⟩
        rw [h0] at this; cases this
    exact ⟨hr, done listed env sto a w g hsz hr h hs e hdf⟩
  | succ fuel ih =>
    intro listed env sto a w g hcl hsz hf h hs e hdf
    refine ⟨fun hr => done listed env sto a w g hsz hr h hs e hdf, fun i hi => ?_⟩
    obtain ⟨h1, o, ho, hedges⟩ := mem_ready.1 hi
    have hlt : i < ops.size := (Array.getElem?_eq_some_iff.1 ho).1
    obtain ⟨pre, post, hr1, hr2, hpre⟩ := rem_split hlt h1 hsz
    obtain ⟨fo, hfo⟩ := hd.foot i o ho
    have hanc := anc_listed hcl i o ho hedges
    rw [hr1] at h hf
    have hp := pull hb ho hfo pre (fun p hp po hpo => by
      obtain ⟨fp, hfp⟩ := hd.foot p po hpo
      obtain ⟨hpi, hpl⟩ := hpre p hp
      rcases hd.row i p o po fo fp ho hpi hpo hfo hfp with hx | hx
      · exfalso
        have h5 := hanc p hx
        have : p < listed.size := by omega
        simp only [Array.getD, this, dif_pos] at h5 hpl
        rw [h5] at hpl; cases hpl
      · exact ⟨fp, hfp, hx⟩) _ h
    unfold wpOp
    rw [ho]
    refine gOp_sound hcx hok hp hs hdf (fun a' w' g' env' sto' hk hs' he hd' => ?_)
    refine ih (listed.setIfInBounds i true) env' sto' a' w' g' ?_ (by simp [hsz]) (by rw [hr2]; simp at hf ⊢; omega) (by rw [hr2]; exact hk) hs' (e.trans he) hd'
    intro j oj hoj hlj e' he' hbd
    by_cases hij : i = j
    · subst hij
      rw [ho] at hoj; cases hoj
      exact getD_set_true (hedges e' he' hbd)
    · rw [getD_set_ne false hij] at hlj
      exact getD_set_true (hcl j oj hoj hlj e' he' hbd)

end
end Go.Ev

/-! Each operation comes to one state, or to none. -/
namespace Go.Ev
section
variable {R : Type} {cx : Cx}

/-- What a call comes to is one answer, or none. -/
def HcNF (hc : FuncId → List D → Sto → (D → Sto → Option R) → Option R) : Prop :=
  ∀ f args sto, ∃ s : Option (D × Sto), ∀ K, hc f args sto K = s.bind fun p => K p.1 p.2

variable {hc : FuncId → List D → Sto → (D → Sto → Option R) → Option R}

theorem evOp_det (hb : BndOk cx hc) (hn : HcNF hc) (all : List Oper) (o : Oper) (st : St) : ∃ s : Option St, ∀ k, evOp cx hc all o st k = s.bind k := by
  cases hf : footOf cx all o with
  | some f =>
    obtain ⟨s, hs, _⟩ := (footOf_ok hb hf).nf st
    exact ⟨s, hs⟩
  | none =>
    obtain ⟨dst, op, ty, pos, after, guard⟩ := o
    cases op with
    | call c =>
      obtain ⟨callee, args, ats⟩ := c
      cases callee with
      | value fo =>
        unfold evOp
        simp only
        cases hr : rd st.env fo with
        | fn f caps =>
          simp only
          obtain ⟨s, hs⟩ := hn f ((argsOf st.env ((look cx.want f).getD []) 0 args.toList).1 ++ caps.map D.dup) st.sto
          refine ⟨s.map fun p => { env := put (argsOf st.env ((look cx.want f).getD []) 0 args.toList).2 dst p.1, sto := p.2 }, fun k => ?_⟩
          rw [hs]
          cases s <;> rfl
        | _ => exact ⟨none, fun _ => rfl⟩
      | builtin b =>
        cases b <;> first
          | exact ⟨none, fun _ => rfl⟩
          | (simp [footOf] at hf; done)
      | _ => exact ⟨none, fun _ => rfl⟩
    | move x => unfold footOf at hf; simp only at hf; split at hf <;> cases hf
    | load t a => unfold footOf at hf; simp only at hf; split at hf <;> cases hf
    | _ => first
      | exact ⟨none, fun _ => rfl⟩
      | (simp [footOf] at hf; done)

theorem gOp_det (hb : BndOk cx hc) (hn : HcNF hc) (ops : Array Oper) (o : Oper) (st : St) : ∃ s : Option St, ∀ k, gOp cx hc ops o st k = s.bind k := by
  unfold gOp guardK
  cases hg : o.guard with
  | none => exact evOp_det hb hn _ _ _
  | some p =>
    obtain ⟨j, want⟩ := p
    simp only
    cases hd : dstOf ops j with
    | none => exact ⟨none, fun _ => rfl⟩
    | some d =>
      simp only
      cases st.env.getD d .any with
      | bool b =>
        cases b <;> cases want <;> first | exact ⟨some _, fun _ => rfl⟩ | exact evOp_det hb hn ops.toList o _
      | tup cs => cases cs with
        | nil => exact ⟨some _, fun _ => rfl⟩
        | cons _ _ => exact ⟨none, fun _ => rfl⟩
      | _ => exact ⟨none, fun _ => rfl⟩

/-- All orders in which an open region may be gone through. -/
def extsGo (ops : Array Oper) : Nat → Array Bool → List (List Nat)
  | 0, _ => [[]]
  | n + 1, listed => match Region.ready .any ops listed with
    | [] => [[]]
    | i :: rs => (i :: rs).flatMap fun i => (extsGo ops n (listed.setIfInBounds i true)).map (i :: ·)

def exts (ops : Array Oper) : List (List Nat) := extsGo ops ops.size (Array.replicate ops.size false)

variable {P : Program} {X : Cfg}

theorem extsGo_ne (ops : Array Oper) : ∀ (n : Nat) (listed : Array Bool), ∃ l, l ∈ extsGo ops n listed
  | 0, _ => ⟨[], by simp [extsGo]⟩
  | n + 1, listed => by
    unfold extsGo
    cases Region.ready .any ops listed with
    | nil => exact ⟨[], by simp⟩
    | cons i rs =>
      obtain ⟨l, hl⟩ := extsGo_ne ops n (listed.setIfInBounds i true)
      exact ⟨i :: l, by simp [hl]⟩

open Classical in
/-- Whatever order is drawn: if each comes to the answer. -/
theorem all_sound (hcx : CxOk P X cx) (hok : HcOk P X hc) (hb : BndOk cx hc) (hn : HcNF hc) {ops : Array Oper} {Q : Exit → Act → World → Prop} {k : St → Option R} {r : R} {g0 : Gh} {w0 : World}
    (hq : ∀ a' w' g' env' sto', k ⟨env', sto'⟩ = some r → Sim X g' w' env' a'.tmps.toList sto' → Ext g0 w0 g' w' → a'.defers = [] → Q .normal a' w') :
    ∀ (fuel : Nat) (listed : Array Bool) (env : List D) (sto : Sto) (a : Act) (w : World) (g : Gh), listed.size = ops.size → (rem ops.size listed).length ≤ fuel → (∀ l, l ∈ extsGo ops fuel listed → seqI cx hc ops l ⟨env, sto⟩ k = some r) →
      Sim X g w env a.tmps.toList sto → Ext g0 w0 g w → a.defers = [] → wpAny P .any ops Q fuel listed a w := by
  intro fuel
  induction fuel with
  | zero =>
    intro listed env sto a w g hsz hf hall hs e hd
    have h0 : rem ops.size listed = [] := List.eq_nil_of_length_eq_zero (by omega)
    have hr : Region.ready .any ops listed = [] := by
      cases hr : Region.ready .any ops listed with
      | nil => rfl
      | cons i rest =>
        have hi : i ∈ Region.ready .any ops listed := by rw [hr]; exact List.mem_cons_self ..
        obtain ⟨h1, o, ho, _⟩ := mem_ready.1 hi
        have : i ∈ rem ops.size listed := mem_rem.2 ⟨(Array.getElem?_eq_some_iff.1 ho).1, h1⟩
        rw [h0] at this; cases this
    exact ⟨hr, hq _ _ _ _ _ (hall [] (by simp [extsGo])) hs e hd⟩
  | succ fuel ih =>
    intro listed env sto a w g hsz hf hall hs e hd
    unfold extsGo at hall
    cases hr : Region.ready .any ops listed with
    | nil =>
      rw [hr] at hall
      refine ⟨fun _ => hq _ _ _ _ _ (hall [] (by simp)) hs e hd, fun i hi => ?_⟩
      rw [hr] at hi; cases hi
    | cons i0 rs =>
      rw [hr] at hall
      refine ⟨fun h => (by rw [hr] at h; cases h), fun i hi => ?_⟩
      obtain ⟨h1, o, ho, _⟩ := mem_ready.1 hi
      have hlt : i < ops.size := (Array.getElem?_eq_some_iff.1 ho).1
      obtain ⟨pre, post, hr1, hr2, _⟩ := rem_split hlt h1 hsz
      rw [hr] at hi
      have hsub : ∀ l, l ∈ extsGo ops fuel (listed.setIfInBounds i true) → seqI cx hc ops (i :: l) ⟨env, sto⟩ k = some r := fun l hl =>
        hall _ (List.mem_flatMap.2 ⟨i, hi, List.mem_map.2 ⟨l, hl, rfl⟩⟩)
      obtain ⟨s, hdet⟩ := gOp_det hb hn ops o ⟨env, sto⟩
      have hseq : ∀ l, l ∈ extsGo ops fuel (listed.setIfInBounds i true) → s.bind (fun st' => seqI cx hc ops l st' k) = some r := fun l hl => by
        have := hsub l hl
        simp only [seqI, ho] at this
        rw [hdet] at this; exact this
      cases hsome : s with
      | none =>
        obtain ⟨l, hl⟩ := extsGo_ne ops fuel (listed.setIfInBounds i true)
        have := hseq l hl
        rw [hsome] at this; cases this
      | some st1 =>
        have hK : gOp cx hc ops o ⟨env, sto⟩ (fun st' => if st' = st1 then some r else none) = some r := by
          rw [hdet, hsome]; simp
        unfold wpOp
        rw [ho]
        refine gOp_sound hcx hok hK hs hd (fun a' w' g' env' sto' hk hs' he hd' => ?_)
        have hst : (⟨env', sto'⟩ : St) = st1 := by
          by_cases hh : (⟨env', sto'⟩ : St) = st1
          · exact hh
          · rw [if_neg hh] at hk; cases hk
        refine ih (listed.setIfInBounds i true) env' sto' a' w' g' (by simp [hsz]) (by rw [hr2]; rw [hr1] at hf; simp at hf ⊢; omega) (fun l hl => ?_) hs' (e.trans he) hd'
        have := hseq l hl
        rw [hsome] at this
        rw [hst]; exact this
end
end Go.Ev

/-! Walking through code. -/
namespace Go.Ev
section
variable {P : Program} {X : Cfg} {R : Type} {cx : Cx}

theorem underL_get {n : Nat} : ∀ {cs : List D}, D.under.underL n cs = true → ∀ (j : Nat) c, cs[j]? = some c → c.under n = true
  | [], _, j, c, h => by simp at h
  | d :: r, h, 0, c, hj => by
    unfold D.under.underL at h; split at h
    · rename_i h1; simp at hj; exact hj ▸ h1
    · cases h
  | d :: r, h, j + 1, c, hj => by
    unfold D.under.underL at h; split at h
    · simp at hj; exact underL_get h j c hj
    · cases h

theorem underAll_get {n : Nat} : ∀ {cs : List D}, underAll n cs = true → ∀ (j : Nat) c, cs[j]? = some c → c.under n = true
  | [], _, j, c, h => by simp at h
  | d :: r, h, 0, c, hj => by
    unfold underAll at h; split at h
    · rename_i h1; simp at hj; exact hj ▸ h1
    · cases h
  | d :: r, h, j + 1, c, hj => by
    unfold underAll at h; split at h
    · simp at hj; exact underAll_get h j c hj
    · cases h

theorem underSto_get {n : Nat} : ∀ {m : Nat} {sto : Sto}, underSto n m sto = true → ∀ (i : Nat) cs, i < m → sto[i]? = some cs → underAll n cs = true
  | 0, _, _, i, cs, h, _ => by omega
  | _ + 1, [], _, i, cs, _, hj => by simp at hj
  | m + 1, d :: r, h, 0, c, _, hj => by
    unfold underSto at h; split at h
    · rename_i h1; simp at hj; exact hj ▸ h1
    · cases h
  | m + 1, d :: r, h, j + 1, c, hm, hj => by
    unfold underSto at h; split at h
    · simp at hj; exact underSto_get h j c (by omega) hj
    · cases h

theorem rep_under {φ : List Nat} {G : Nat → Nat} {w : World} {n : Nat} {d : D} {v : Value} (h : RepV X φ G w d v) : d.under n = true → RepV X (φ.take n) G w d v := by
  induction h with
  | any v => exact fun _ => .any v
  | int h => exact fun _ => .int h
  | bool b => exact fun _ => .bool b
  | str s h => exact fun _ => .str s h
  | errNil => exact fun _ => .errNil
  | errOther t v => exact fun _ => .errOther t v
  | errFault hp h0 h1 h2 hc ha hu ih => exact fun _ => .errFault hp h0 h1 h2 hc ha (ih rfl)
  | errJoined hp h0 h1 hx hy ihx ihy => exact fun _ => .errJoined hp h0 h1 (ihx rfl) (ihy rfl)
  | nilp => exact fun _ => .nilp
  | ptr h =>
    rename_i i off b
    intro hu
    have : i < n := Nat.le_of_ble_eq_true hu
    exact .ptr (by rw [List.getElem?_take, if_pos this]; exact h)
  | box vs hp hc hcl hr ih => exact fun _ => .box vs hp hc hcl (fun j c hj => (hr j c hj).closed (hcl j c hj))
  | nils => exact fun _ => .nils
  | slNil hn => exact fun _ => .slNil hn
  | slE hm hcap hmax => exact fun _ => .slE hm hcap hmax
  | sl vs hlen hcap hmax hp hc hr ih => exact fun _ => .sl vs hlen hcap hmax hp hc (fun i x hx j c hj => (hr i x hx j c hj).closed (cells_closed _ _ _ _ hj))
  | nilf => exact fun _ => .nilf
  | fn hl hr ih => exact fun h => .fn hl (fun j c hj => ih j c hj (underL_get h j c hj))
  | agg hl hr ih => exact fun h => .agg hl (fun j c hj => ih j c hj (underL_get h j c hj))
  | tup hl hr ih => exact fun h => .tup hl (fun j c hj => ih j c hj (underL_get h j c hj))

/-- Objects that nothing leads to are let go. -/
theorem Sim.trunc {g : Gh} {w : World} {env : List D} {vals : List Value} {sto : Sto} (h : Sim X g w env vals sto) (n : Nat) (he : underAll n env = true) (hst : underSto n n sto = true) :
    Sim X { g with φ := g.φ.take n } w env vals (sto.take n) := by
  refine ⟨h.len, fun t d v hd hv => rep_under (h.rep t d v hd hv) (underAll_get he t d hd), by simp [h.slen], ?_, ?_, h.kdom, h.gdom⟩
  · intro i b cs hb hi
    simp only [List.getElem?_take] at hb hi
    split at hb
    · rename_i hin
      rw [if_pos hin] at hi
      obtain ⟨k, g0, cell⟩ := h.obj i b cs hb hi
      refine ⟨k, g0, fun j c hj => ?_⟩
      obtain ⟨v, hv, hf, hr⟩ := cell j c hj
      exact ⟨v, hv, hf, rep_under hr (underAll_get (underSto_get hst i cs hin hi) j c hj)⟩
    · cases hb
  · intro ℓ md ty l a len cap ho hmd
    refine h.own ℓ md ty l a len cap ?_ hmd
    generalize hx : D.sl md ty l = x at ho ⊢
    generalize hy : Value.slice (some a) len cap = y at ho ⊢
    cases ho with
    | leaf hd hv => exact .leaf hd hv
    | agg hd hv hj he => exact .agg hd hv hj he
    | tup hd hv hj he => exact .tup hd hv hj he
    | cell hi hb hj hv =>
      simp only [List.getElem?_take] at hb hi
      split at hi
      · rename_i hin; rw [if_pos hin] at hb; exact .cell hi hb hj hv
      · cases hi

theorem Ext.trunc {g g' : Gh} {w w' : World} (e : Ext g w g' w') {n : Nat} (hn : g.φ.length ≤ n) : Ext g w { g' with φ := g'.φ.take n } w' :=
  ⟨e.size, e.os, e.tape, e.output, e.blk, e.cell, e.gmono, e.gsame, e.kdom, fun i b h => by
    have : i < n := Nat.lt_of_lt_of_le (List.getElem?_eq_some_iff.1 h).1 hn
    show (g'.φ.take n)[i]? = some b
    rw [List.getElem?_take, if_pos this]; exact e.φ i b h⟩

theorem keepFrom_length (keep : List (Nat × Sh)) : ∀ (i : Nat) (l : List D), (keepFrom keep i l).length = l.length
  | _, [] => rfl
  | i, d :: r => by simp [keepFrom, keepFrom_length keep (i + 1) r]

theorem keepFrom_wk (keep : List (Nat × Sh)) : ∀ (i : Nat) (l : List D) (t : Nat) d', (keepFrom keep i l)[t]? = some d' → ∃ d, l[t]? = some d ∧ Wk d d'
  | _, [], t, d', h => by simp [keepFrom] at h
  | i, d :: r, 0, d', h => by
    simp only [keepFrom, List.getElem?_cons_zero, Option.some.injEq] at h
    refine ⟨d, rfl, ?_⟩
    split at h
    · exact .inr (.inr ⟨_, h.symm⟩)
    · exact .inr (.inl h.symm)
  | i, d :: r, t + 1, d', h => by
    simp only [keepFrom, List.getElem?_cons_succ] at h
    simpa using keepFrom_wk keep (i + 1) r t d' h

theorem shapeFrom_wk (sh : List (Nat × Sh)) : ∀ (i : Nat) (l : List D) (t : Nat) d', (shapeFrom sh i l)[t]? = some d' → ∃ d, l[t]? = some d ∧ Wk d d'
  | _, [], t, d', h => by simp [shapeFrom] at h
  | i, d :: r, 0, d', h => by
    simp only [shapeFrom, List.getElem?_cons_zero, Option.some.injEq] at h
    refine ⟨d, rfl, ?_⟩
    split at h
    · exact .inr (.inr ⟨_, h.symm⟩)
    · exact .inl h.symm
  | i, d :: r, t + 1, d', h => by
    simp only [shapeFrom, List.getElem?_cons_succ] at h
    simpa using shapeFrom_wk sh (i + 1) r t d' h

theorem shapeSto_length (sh : List (Nat × List (Nat × Sh))) : ∀ (i : Nat) (l : Sto), (shapeSto sh i l).length = l.length
  | _, [] => rfl
  | i, d :: r => by simp [shapeSto, shapeSto_length sh (i + 1) r]

theorem shapeSto_wk (sh : List (Nat × List (Nat × Sh))) : ∀ (i : Nat) (l : Sto) (t : Nat) cs', (shapeSto sh i l)[t]? = some cs' →
    ∃ cs, l[t]? = some cs ∧ ∀ (j : Nat) d', cs'[j]? = some d' → ∃ d, cs[j]? = some d ∧ Wk d d'
  | _, [], t, d', h => by simp [shapeSto] at h
  | i, d :: r, 0, d', h => by
    simp only [shapeSto, List.getElem?_cons_zero, Option.some.injEq] at h
    refine ⟨d, rfl, fun j x hj => ?_⟩
    split at h
    · rw [← h] at hj; exact shapeFrom_wk _ 0 d j x hj
    · rw [← h] at hj; exact ⟨x, hj, .inl rfl⟩
  | i, d :: r, t + 1, d', h => by
    simp only [shapeSto, List.getElem?_cons_succ] at h
    simpa using shapeSto_wk sh (i + 1) r t d' h

theorem Sim.norm {g : Gh} {w : World} {env : List D} {vals : List Value} {sto : Sto} (lh : LH) (n : Nat) (h : Sim X g w env vals sto) :
    ∃ g', Sim X g' w (norm lh n ⟨env, sto⟩).env vals (norm lh n ⟨env, sto⟩).sto ∧ ∀ g0 w0, g0.φ.length ≤ n → Ext g0 w0 g w → Ext g0 w0 g' w := by
  have h1 := h.weaken (keepFrom_length lh.env 0 env) (keepFrom_wk lh.env 0 env) (shapeSto_length lh.sto 0 sto) (shapeSto_wk lh.sto 0 sto)
  unfold Ev.norm
  dsimp only
  split
  · rename_i he hst
    exact ⟨_, h1.trunc n he hst, fun g0 w0 hn e => e.trunc hn⟩
  · exact ⟨g, h1, fun _ _ _ e => e⟩

theorem norm_sto (lh : LH) (n : Nat) (st : St) (h : n = st.sto.length) : (norm lh n st).sto.length = n := by
  unfold norm
  dsimp only
  split
  · simp [shapeSto_length, h]
  · simp [shapeSto_length, h]

/-- The contract of a loop is what the rounds come to. -/
def LOkR (cx : Cx) (hc : FuncId → List D → Sto → (D → Sto → Option R) → Option R) (keep : List (Nat × LH)) (c : Code) : Prop :=
  ∀ lh lc, (firstRegion c).bind (look keep) = some lh → lh.con = some lc → ∀ (st : St) (k : Exit → St → Option R) (r : R), lc R (norm lh st.sto.length st) k = some r →
    ∃ n, loopN (fun st k => evCode cx hc keep c st k) (norm lh st.sto.length) (fun e s => k e (normO lh st.sto.length s)) n (norm lh st.sto.length st) = some r

/-- The contract of a region whose order is open is what each order comes to. -/
def RegOkR (cx : Cx) (hc : FuncId → List D → Sto → (D → Sto → Option R) → Option R) (keep : List (Nat × LH)) (id : Nat) (ops : Array Oper) : Prop :=
  ∀ lh lc, regAt keep id = some lh → lh.con = some lc → HcNF hc ∧ ∀ (st : St) (k : Exit → St → Option R) (r : R), lc R (norm lh lh.cut st) k = some r →
    ∀ l, l ∈ exts ops → seqI cx hc ops l (norm lh lh.cut st) (fun s => k .normal (normO lh lh.cut s)) = some r

/-- The contract of what follows is what it comes to. -/
def JOkR (cx : Cx) (hc : FuncId → List D → Sto → (D → Sto → Option R) → Option R) (keep : List (Nat × LH)) (c : Code) : Prop :=
  (∀ lh lc, joinAt keep c = some lh → lh.con = some lc → ∀ (st : St) (k : Exit → St → Option R) (r : R), lc R (norm lh lh.cut st) k = some r → evCode cx hc keep c (norm lh lh.cut st) (fun e s => k e (normO lh lh.cut s)) = some r) ∧
    ∀ id ops draw, c = .region id ops draw → RegOkR cx hc keep id ops

structure WalkOk (P : Program) (X : Cfg) (cx : Cx) (hc : FuncId → List D → Sto → (D → Sto → Option R) → Option R) : Prop where
  base : CxOk P X cx
  mixed : P.follows .mixedOrders = true
  bnd : BndOk cx hc
  calls : HcOk P X hc

def WOk (P : Program) (X : Cfg) (cx : Cx) (hc : FuncId → List D → Sto → (D → Sto → Option R) → Option R) (keep : List (Nat × LH)) (c : Code) : Prop :=
  ∀ env sto a w g k r (Q : Exit → Act → World → Prop), evCode cx hc keep c ⟨env, sto⟩ k = some r → Sim X g w env a.tmps.toList sto → a.defers = [] →
    (∀ e a' w' g' env' sto', k e ⟨env', sto'⟩ = some r → Sim X g' w' env' a'.tmps.toList sto' → Ext g w g' w' → a'.defers = [] → Q e a' w') → c.wp P Q a w

theorem loopN_sound {hc : FuncId → List D → Sto → (D → Sto → Option R) → Option R} {keep : List (Nat × LH)} {c : Code} (hw : WOk P X cx hc keep c) (nm : St → St) (n0 : Nat)
    (hnm : ∀ {g : Gh} {w : World} {env : List D} {vals : List Value} {sto : Sto}, Sim X g w env vals sto → ∃ g', Sim X g' w (nm ⟨env, sto⟩).env vals (nm ⟨env, sto⟩).sto ∧ ∀ g0 w0, g0.φ.length ≤ n0 → Ext g0 w0 g w → Ext g0 w0 g' w)
    {k : Exit → St → Option R} {r : R} {g0 : Gh} {w0 : World} (hn0 : g0.φ.length ≤ n0) {Q : Exit → Act → World → Prop}
    (hq : ∀ e a' w' g' env' sto', k e ⟨env', sto'⟩ = some r → Sim X g' w' env' a'.tmps.toList sto' → Ext g0 w0 g' w' → a'.defers = [] → Q e a' w') :
    ∀ (n : Nat) (st : St) (a : Act) (w : World) (g : Gh), loopN (fun st k => evCode cx hc keep c st k) nm k n st = some r → Sim X g w st.env a.tmps.toList st.sto → Ext g0 w0 g w → a.defers = [] → Code.rounds P c Q n a w
  | 0, _, _, _, _, h, _, _, _ => by cases h
  | n + 1, st, a, w, g, h, hs, e, hd => by
    unfold loopN at h
    refine hw st.env st.sto a w g _ r _ h hs hd (fun ex a' w' g' env' sto' hk hs' e' hd' => ?_)
    cases ex with
    | normal =>
      obtain ⟨g2, hs2, he2⟩ := hnm hs'
      exact loopN_sound hw nm n0 hnm hn0 hq n _ a' w' g2 hk hs2 (he2 g0 w0 hn0 (e.trans e')) hd'
    | _ => exact hq _ a' w' g' env' sto' hk hs' (e.trans e') hd'

theorem rd_bool {g : Gh} {w : World} {env : List D} {sto : Sto} {a : Act} (hs : Sim X g w env a.tmps.toList sto) {c : Operand} {v : Bool} (h : rd env c = .bool v) : a.eval c = .bool v := by
  have := hs.read c
  rw [h] at this
  exact rep_bool this

theorem evCode_sound {hc : FuncId → List D → Sto → (D → Sto → Option R) → Option R} (hok : WalkOk P X cx hc) {keep : List (Nat × LH)} :
    ∀ (c : Code), (∀ c' ∈ loopsIn c, LOkR cx hc keep c') → (∀ c' ∈ joinsIn c, JOkR cx hc keep c') → WOk P X cx hc keep c
  | .skip, _, _ => fun env sto a w g k r Q h hs hd hq => wp_skip (hq _ _ _ _ _ _ h hs (.refl _ _) hd)
  | .region id ops draw, _, hj => fun env sto a w g k r Q h hs hd hq => by
    unfold evCode at h
    cases draw with
    | true =>
      dsimp only at h
      split at h
      · rename_i hdr
        have al : Alike w { w with drawn := w.drawn + 1 } := ⟨rfl, rfl, rfl, rfl⟩
        refine wp_region_any hok.mixed (any_sound hok.base hok.calls hok.bnd (okDraw_spec hdr) (k := k .normal) (r := r) (g0 := g) (w0 := w) (fun a' w' g' env' sto' hk hs' e hd' => hq _ _ _ _ _ _ hk hs' e hd')
          ops.size (Array.replicate ops.size false) env sto a _ g (fun i o _ hl => ?_) (by simp) (by unfold rem; exact Nat.le_trans (List.length_filter_le _ _) (by simp)) ?_ (hs.alike al) (.alike g al) hd)
        · exfalso; simp only [Array.getD] at hl; split at hl <;> simp at hl
        · have e : rem ops.size (Array.replicate ops.size false) = List.range' 0 ops.toList.length := by
            rw [← List.range_eq_range', Array.length_toList]
            unfold rem
            rw [List.filter_eq_self]
            intro i hi
            have := List.mem_range.1 hi
            simp [this]
          rw [e, ← evOps_seqI ops.toList 0 _ (fun j => by simp)]
          exact h
      · split at h
        · rename_i lh hlh
          split at h
          · rename_i lc hlc hble
            have hble := Nat.le_of_ble_eq_true hble
            obtain ⟨hnf, hall⟩ := (hj (.region id ops true) (by simp [joinsIn])).2 id ops true rfl lh lc hlh hlc
            have hall := hall _ _ _ h
            have al : Alike w { w with drawn := w.drawn + 1 } := ⟨rfl, rfl, rfl, rfl⟩
            have hlen : g.φ.length ≤ lh.cut := Nat.le_trans (Nat.le_of_eq hs.slen) hble
            obtain ⟨g1, hs1, e1⟩ := (hs.alike al).norm lh lh.cut
            refine wp_region_any hok.mixed (all_sound hok.base hok.calls hok.bnd hnf (k := fun s => k .normal (normO lh lh.cut s)) (r := r) (g0 := g) (w0 := w) (fun a' w' g' env' sto' hk hs' e hd' => ?_)
              ops.size (Array.replicate ops.size false) _ _ a _ g1 (by simp) (by unfold rem; exact Nat.le_trans (List.length_filter_le _ _) (by simp)) hall hs1 (e1 g w hlen (.alike g al)) hd)
            obtain ⟨g3, hs3, e3⟩ := hs'.norm { env := lh.out, sto := [], out := [], con := none } lh.cut
            exact hq _ _ _ _ _ _ hk hs3 (e3 g w hlen e) hd'
          · cases h
        · cases h
    | false => exact wp_region_list (evOps_sound hok.base hok.calls ops.toList env sto a w g h hs hd (fun a' w' g' env' sto' hk hs' e hd' => hq _ _ _ _ _ _ hk hs' e hd'))
  | .seq x y, hl, hj => fun env sto a w g k r Q h hs hd hq => by
    have hy := evCode_sound hok y (fun c' hc' => hl c' (by simp [loopsIn, hc'])) (fun c' hc' => hj c' (by simp [joinsIn, hc']))
    have hlen : g.φ.length ≤ sto.length := Nat.le_of_eq hs.slen
    unfold evCode at h
    refine wp_seq (evCode_sound hok x (fun c' hc' => hl c' (by simp [loopsIn, hc'])) (fun c' hc' => hj c' (by simp [joinsIn, hc'])) env sto a w g _ r _ h hs hd (fun e a' w' g' env' sto' hk hs' e' hd' => ?_))
    cases e with
    | normal =>
      dsimp only at hk
      split at hk
      · exact hy env' sto' a' w' g' _ r _ hk hs' hd' (fun e2 a2 w2 g2 env2 sto2 hk2 hs2 e2' hd2 => hq _ _ _ _ _ _ hk2 hs2 (e'.trans e2') hd2)
      · rename_i lh hlh
        obtain ⟨g1, hs1, e1⟩ := hs'.norm lh lh.cut
        split at hk
        · rename_i lc hlc hble
          have hlen : g.φ.length ≤ lh.cut := Nat.le_trans hlen (Nat.le_of_ble_eq_true hble)
          have hk2 := (hj y (by simp [joinsIn])).1 lh lc hlh hlc _ _ _ hk
          refine hy _ _ a' w' g1 _ r _ hk2 hs1 hd' (fun e2 a2 w2 g2 env2 sto2 hk2 hs2 e2' hd2 => ?_)
          obtain ⟨g3, hs3, e3⟩ := hs2.norm { env := lh.out, sto := [], out := [], con := none } lh.cut
          exact hq _ _ _ _ _ _ hk2 hs3 (e3 g w hlen ((e1 g w hlen e').trans e2')) hd2
        · cases hk
    | _ => exact hq _ _ _ _ _ _ hk hs' e' hd'
  | .cond c x y, hl, hj => fun env sto a w g k r Q h hs hd hq => by
    have hx := evCode_sound hok x (fun c' hc' => hl c' (by simp [loopsIn, hc'])) (fun c' hc' => hj c' (by simp [joinsIn, hc']))
    have hy := evCode_sound hok y (fun c' hc' => hl c' (by simp [loopsIn, hc'])) (fun c' hc' => hj c' (by simp [joinsIn, hc']))
    have key : ∀ b : Bool, rd env c = .bool b → ∀ env', Sim X g w env' a.tmps.toList sto → (if b then evCode cx hc keep x ⟨env', sto⟩ k else evCode cx hc keep y ⟨env', sto⟩ k) = some r → (Code.cond c x y).wp P Q a w := by
      intro b hb env' hs' h'
      refine wp_cond (rd_bool hs hb) ?_
      cases b with
      | true => exact hx env' sto a w g k r Q h' hs' hd hq
      | false => exact hy env' sto a w g k r Q h' hs' hd hq
    have hset : ∀ (t : Tmp) (b : Bool), c = .tmp t → rd env c = .bool b → Sim X g w (env.set t (.bool b)) a.tmps.toList sto := by
      intro t b hc hb
      subst hc
      obtain ⟨v, hv, hr⟩ := hs.getB (t := t) hb (by intro h; cases h)
      have := rep_bool hr
      subst this
      exact hs.setSame (by simpa using hv) (.bool b) rfl
    unfold evCode at h
    split at h
    · rename_i t v hc
      split at h
      · exact key true hc _ (hset _ true rfl hc) h
      · exact key false hc _ (hset _ false rfl hc) h
    · rename_i v hnt hc
      split at h
      · exact key true hc _ hs h
      · exact key false hc _ hs h
    · cases h
  | .block id x, hl, hj => fun env sto a w g k r Q h hs hd hq => by
    unfold evCode at h
    refine wp_block (evCode_sound hok x (fun c' hc' => hl c' (by simpa [loopsIn] using hc')) (fun c' hc' => hj c' (by simpa [joinsIn] using hc')) env sto a w g _ r _ h hs hd (fun e a' w' g' env' sto' hk hs' e' hd' => ?_))
    cases e with
    | exit i =>
      show if i = id then _ else _
      dsimp only at hk
      split at hk
      · rename_i hi
        rw [if_pos (Nat.eq_of_beq_eq_true hi)]; exact hq _ _ _ _ _ _ hk hs' e' hd'
      · rename_i hi
        rw [if_neg (Nat.ne_of_beq_eq_false hi)]; exact hq _ _ _ _ _ _ hk hs' e' hd'
    | _ => exact hq _ _ _ _ _ _ hk hs' e' hd'
  | .loop x, hl, hj => fun env sto a w g k r Q h hs hd hq => by
    have hx := evCode_sound hok x (fun c' hc' => hl c' (by simp [loopsIn, hc'])) (fun c' hc' => hj c' (by simpa [joinsIn] using hc'))
    have hlen : g.φ.length ≤ sto.length := Nat.le_of_eq hs.slen
    unfold evCode at h
    split at h
    · rename_i lh hlh
      obtain ⟨g1, hs1, e1⟩ := hs.norm lh sto.length
      split at h
      · rename_i lc hlc
        obtain ⟨n, hn⟩ := hl x (by simp [loopsIn]) lh lc hlh hlc ⟨env, sto⟩ _ _ h
        refine wp_loop_rounds n (loopN_sound hx _ sto.length (fun h => h.norm lh sto.length) hlen (fun e2 a2 w2 g2 env2 sto2 hk2 hs2 e2' hd2 => ?_) n _ a w g1 hn hs1 (e1 _ _ hlen (.refl _ _)) hd)
        obtain ⟨g3, hs3, e3⟩ := hs2.norm { env := lh.out, sto := [], out := [], con := none } sto.length
        exact hq _ _ _ _ _ _ hk2 hs3 (e3 g w hlen e2') hd2
      · exact wp_loop_rounds 64 (loopN_sound hx _ sto.length (fun h => h.norm lh sto.length) hlen hq 64 _ a w g1 h hs1 (e1 _ _ hlen (.refl _ _)) hd)
    · exact wp_loop_rounds 64 (loopN_sound hx (fun st => st) sto.length (fun {g w env vals sto} h => ⟨g, h, fun _ _ _ e => e⟩) hlen hq 64 _ a w g h hs (.refl _ _) hd)
  | .exit id, _, _ => fun env sto a w g k r Q h hs hd hq => wp_exit (hq _ _ _ _ _ _ h hs (.refl _ _) hd)
  | .ret, _, _ => fun env sto a w g k r Q h hs hd hq => wp_ret (hq _ _ _ _ _ _ h hs (.refl _ _) hd)
  | .scope _, _, _ => fun env sto a w g k r Q h => by cases h
  | .label _, _, _ => fun env sto a w g k r Q h => by cases h
  | .goto _, _, _ => fun env sto a w g k r Q h => by cases h
  | .rangeFunc _ _ _ _, _, _ => fun env sto a w g k r Q h => by cases h
  | .refuse _, _, _ => fun env sto a w g k r Q h => by cases h

end
end Go.Ev
