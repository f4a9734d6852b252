/-
  The statement DiskPlays of the program is proved: for every input that the row speaks of, the law answers true.
  Conditions: those that the statement's row prints, and no other. This text: an evaluator of the model's code over plain values, and that it is sound (part 3).
-/
import Derived.Test.YtkeejnlicagjiaaEvB
import Derived.Test.YtkeejnlicagjiaaEvA
import Derived.LoopN
set_option linter.unusedVariables false
set_option linter.unusedSimpArgs false
/-! Arrays as objects: what is laid into them, what is laid behind. -/
namespace Go.Ev
section
variable {X : Cfg}

/-- A row more, that says nothing. -/
theorem Sim.addRow {g w env vals sto} (h : Sim X g w env vals sto) (c : Nat) : Sim X { g with φ := g.φ ++ [c] } w env vals (sto ++ [[]]) := by
  have hφ : ∀ (i b : Nat), g.φ[i]? = some b → (g.φ ++ [c])[i]? = some b := fun i b hb => by
    rw [List.getElem?_append_left (List.getElem?_eq_some_iff.1 hb).1]; exact hb
  have hm : ∀ d v, RepV X g.φ g.G w d v → RepV X (g.φ ++ [c]) g.G w d v := fun d v hr => hr.mono hφ (fun _ => Nat.le_refl _) (fun _ _ _ => rfl)
  refine ⟨h.len, fun t d v hd hv => hm _ _ (h.rep t d v hd hv), by simp [h.slen], ?_, ?_, h.kdom, h.gdom⟩
  · intro i b cs hb hi
    rcases getElem?_snoc hi with ⟨hlt, hi⟩ | ⟨_, e⟩
    · have hb' : g.φ[i]? = some b := by
        have hb0 : (g.φ ++ [c])[i]? = some b := hb
        rwa [List.getElem?_append_left (by rw [h.slen]; exact hlt)] at hb0
      exact (h.obj i b cs hb' hi).map (fun b k => ⟨k, id, fun _ => ⟨rfl, rfl⟩⟩) hm
    · subst e; unfold SimR arrOf; exact .inl rfl
  · intro ℓ md ty l a len cap ho hmd
    refine h.own ℓ md ty l a len cap ?_ hmd
    generalize hx : D.sl md ty l = x at ho ⊢
    generalize hy : Value.slice (some a) len cap = y at ho ⊢
    cases ho with
    | leaf hd hv => exact .leaf hd hv
    | agg hd hv hj he => exact .agg hd hv hj he
    | tup hd hv hj he => exact .tup hd hv hj he
    | cell hi hb hj hv =>
      rcases getElem?_snoc hi with ⟨hlt, hi⟩ | ⟨_, e⟩
      · have hb0 : (g.φ ++ [c])[_]? = some _ := hb
        rw [List.getElem?_append_left (by rw [h.slen]; exact hlt)] at hb0
        exact .cell hi hb0 hj hv
      · subst e; simp at hj

/-- An array is let go, with its block. -/
theorem Sim.dropArr {g w env vals sto} (h : Sim X g w env vals sto) {i b : Nat} {t : Ty} {l : List t.den} (hi : sto[i]? = some [.arr t l]) (hk : g.κ b = some (.obj i)) :
    Sim X { g with κ := upd g.κ b none } w env vals (sto.set i []) := by
  refine ⟨h.len, h.rep, by simp [h.slen], ?_, ?_, ?_, h.gdom⟩
  · intro j c cs hc hj
    rcases get_set_eq hj with ⟨_, _, e⟩ | ⟨hne, hj⟩
    · subst e; unfold SimR arrOf; exact .inl rfl
    · refine (h.obj j c cs hc hj).map (fun b' k => ⟨?_, id, fun _ => ⟨rfl, rfl⟩⟩) (fun _ _ h => h)
      show upd g.κ b none b' = _
      rw [upd_ne _ _ (by intro e; subst e; rw [hk] at k; cases k; exact hne rfl)]; exact k
  · intro ℓ md ty l' a len cap ho hmd
    have ho' : Occ g.φ w env vals sto ℓ (.sl md ty l') (.slice (some a) len cap) := by
      generalize hx : D.sl md ty l' = x at ho ⊢
      generalize hy : Value.slice (some a) len cap = y at ho ⊢
      cases ho with
      | leaf hd hv => exact .leaf hd hv
      | agg hd hv hj he => exact .agg hd hv hj he
      | tup hd hv hj he => exact .tup hd hv hj he
      | cell hi' hb hj hv =>
        rcases get_set_eq hi' with ⟨_, _, e⟩ | ⟨hne, hi'⟩
        · subst e; simp at hj
        · exact .cell hi' hb hj hv
    obtain ⟨k, gg, sp⟩ := h.own ℓ md ty l' a len cap ho' hmd
    refine ⟨?_, gg, sp⟩
    show upd g.κ b none a.block = _
    rw [upd_ne _ _ (by intro e; rw [e, hk] at k; cases k; exact ho'.not_obj)]; exact k
  · intro b' ℓ hb
    by_cases e : b' = b
    · subst e; simp [upd] at hb
    · exact h.kdom b' ℓ (by simpa [upd, e] using hb)

/-- A row that said nothing stands for an array over a block that is nobody's. -/
theorem Sim.setArr {g w env vals sto} (h : Sim X g w env vals sto) {i b : Nat} {t : Ty} {l : List t.den} {C : Nat} (hi : sto[i]? = some []) (hφ : g.φ[i]? = some (arc b l.length C)) (hk : g.κ b = none) (hb : b < w.heap.size)
    (hg : g.G b = 0) (hle : l.length ≤ C) (hmax : C ≤ 9223372036854775807) (hcell : ∀ j, j < C * t.size → (∃ v, w.cell? ⟨b, j, none⟩ = some v) ∧ w.frozen? ⟨b, j, none⟩ = false)
    (hcon : ∀ (p : Nat) x, l[p]? = some x → ∀ (j : Nat) c, (cells t x)[j]? = some c → ∃ v, w.cell? ⟨b, p * t.size + j, none⟩ = some v ∧ RepV X g.φ g.G w c v) :
    Sim X { g with κ := upd g.κ b (some (.obj i)) } w env vals (sto.set i [.arr t l]) := by
  refine ⟨h.len, h.rep, by simp [h.slen], ?_, ?_, ?_, h.gdom⟩
  · intro j c cs hc hj
    rcases get_set_eq hj with ⟨e1, _, e⟩ | ⟨hne, hj⟩
    · subst e1; subst e
      have hc' : g.φ[i]? = some c := hc
      rw [hφ] at hc'; cases hc'
      unfold SimR arrOf
      exact .inr ⟨b, C, rfl, ⟨by simp [upd], hg, hle, hmax, hcell, hcon⟩⟩
    · refine (h.obj j c cs hc hj).map (fun b' k => ⟨?_, id, fun _ => ⟨rfl, rfl⟩⟩) (fun _ _ h => h)
      show upd g.κ b _ b' = _
      rw [upd_ne _ _ (by intro e; subst e; rw [hk] at k; cases k)]; exact k
  · intro ℓ md ty l' a len cap ho hmd
    have ho' : Occ g.φ w env vals sto ℓ (.sl md ty l') (.slice (some a) len cap) := by
      generalize hx : D.sl md ty l' = x at ho ⊢
      generalize hy : Value.slice (some a) len cap = y at ho ⊢
      cases ho with
      | leaf hd hv => exact .leaf hd hv
      | agg hd hv hj he => exact .agg hd hv hj he
      | tup hd hv hj he => exact .tup hd hv hj he
      | cell hi' hb hj hv =>
        rcases get_set_eq hi' with ⟨_, _, e⟩ | ⟨hne, hi'⟩
        · subst e; subst hx
          have := arrOf_get hj (by intro _ _ h; cases h)
          simp [arrOf] at this
        · exact .cell hi' hb hj hv
    obtain ⟨k, gg, sp⟩ := h.own ℓ md ty l' a len cap ho' hmd
    refine ⟨?_, gg, sp⟩
    show upd g.κ b _ a.block = _
    rw [upd_ne _ _ (by intro e; rw [e, hk] at k; cases k)]; exact k
  · intro b' ℓ hb'
    by_cases e : b' = b
    · subst e; exact hb
    · exact h.kdom b' ℓ (by simpa [upd, e] using hb')

/-- A row that said nothing stands for an array without a block. -/
theorem Sim.setNil {g w env vals sto} (h : Sim X g w env vals sto) {i : Nat} {t : Ty} (hi : sto[i]? = some []) (hφ : g.φ[i]? = some 0) : Sim X g w env vals (sto.set i [.arr t []]) := by
  refine ⟨h.len, h.rep, by simp [h.slen], ?_, ?_, h.kdom, h.gdom⟩
  · intro j c cs hc hj
    rcases get_set_eq hj with ⟨e1, _, e⟩ | ⟨hne, hj⟩
    · subst e1; subst e
      rw [hφ] at hc; cases hc
      unfold SimR arrOf
      exact .inl ⟨rfl, rfl⟩
    · exact h.obj j c cs hc hj
  · intro ℓ md ty l' a len cap ho hmd
    refine h.own ℓ md ty l' a len cap ?_ hmd
    generalize hx : D.sl md ty l' = x at ho ⊢
    generalize hy : Value.slice (some a) len cap = y at ho ⊢
    cases ho with
    | leaf hd hv => exact .leaf hd hv
    | agg hd hv hj he => exact .agg hd hv hj he
    | tup hd hv hj he => exact .tup hd hv hj he
    | cell hi' hb hj hv =>
      rcases get_set_eq hi' with ⟨_, _, e⟩ | ⟨hne, hi'⟩
      · subst e; subst hx
        have := arrOf_get hj (by intro _ _ h; cases h)
        simp [arrOf] at this
      · exact .cell hi' hb hj hv

theorem set_snoc {α : Type} (l : List α) (x y : α) {N : Nat} (h : N = l.length) : (l ++ [x]).set N y = l ++ [y] := by
  subst h; rw [List.set_append_right _ _ (Nat.le_refl _)]; simp

theorem set_set_snoc (sto : Sto) (x y z : List D) {N : Nat} (h : N = sto.length) : ((sto ++ [x]).set N y) = sto ++ [y] := set_snoc sto x y h

/-- An array without an element, and without a block. -/
theorem Sim.nilRow {g w env vals sto} (h : Sim X g w env vals sto) (t : Ty) : Sim X { g with φ := g.φ ++ [0] } w env vals (sto ++ [[.arr t []]]) := by
  have h1 := h.addRow 0
  have h2 := h1.setNil (i := sto.length) (t := t) (by simp) (by show (g.φ ++ [0])[sto.length]? = _; rw [← h.slen]; simp)
  rw [set_snoc _ _ _ rfl] at h2
  exact h2

theorem Ext.phi (g : Gh) (w : World) (c : Nat) : Ext g w { g with φ := g.φ ++ [c] } w :=
  ⟨Nat.le_refl _, rfl, rfl, rfl, fun _ _ _ => rfl, fun _ _ _ => rfl, fun _ => Nat.le_refl _, fun _ _ _ => rfl, fun _ _ h => h, fun i b hb => by
    show (g.φ ++ [c])[i]? = _
    rw [List.getElem?_append_left (List.getElem?_eq_some_iff.1 hb).1]; exact hb⟩

/-- Cells are laid into an array's block. -/
theorem Sim.layArr {g w env vals sto} (h : Sim X g w env vals sto) {i b : Nat} {t : Ty} {l : List t.den} {C : Nat} (hi : sto[i]? = some [.arr t l]) (hA : SimA X g w i b t l C) {o : Nat} {ys : List Value} (ho : o + ys.length ≤ C * t.size) :
    Sim X { g with κ := upd g.κ b none } (w.setCells b o ys) env vals (sto.set i []) ∧ (∀ j, j < C * t.size → (∃ v, (w.setCells b o ys).cell? ⟨b, j, none⟩ = some v) ∧ (w.setCells b o ys).frozen? ⟨b, j, none⟩ = false) ∧
      b < (w.setCells b o ys).heap.size ∧ (∀ j y, ys[j]? = some y → (w.setCells b o ys).cell? ⟨b, o + j, none⟩ = some y) ∧ (∀ j, (j < o ∨ o + ys.length ≤ j) → (w.setCells b o ys).cell? ⟨b, j, none⟩ = w.cell? ⟨b, j, none⟩) ∧
      (∀ d v, RepV X g.φ g.G w d v → RepV X g.φ g.G (w.setCells b o ys) d v) ∧
      ∀ (κ' : Nat → Option Loc) (φ' : List Nat), (∀ b', b' < w.heap.size → g.κ b' = none → κ' b' = none) → (∀ (i : Nat) b, g.φ[i]? = some b → φ'[i]? = some b) → Ext g w { φ := φ', G := g.G, κ := κ' } (w.setCells b o ys) := by
  have hthere : ∀ j, j < ys.length → (w.cell? ⟨b, o + j, none⟩).isSome = true := fun j hj => by
    obtain ⟨⟨u, hu⟩, _⟩ := hA.cell (o + j) (by omega)
    rw [hu]; rfl
  have hbl : b < w.heap.size := h.kdom b _ hA.k
  generalize hw' : w.setCells b o ys = w'
  have hcin : ∀ j y, ys[j]? = some y → w'.cell? ⟨b, o + j, none⟩ = some y := fun j y hy => by
    have hj := (List.getElem?_eq_some_iff.1 hy).1
    subst hw'
    rw [World.cell?_setCells_in b _ _ w hthere j hj, ← hy, List.getElem?_eq_getElem hj]
  have hcout : ∀ b' q, (b' = b → q < o ∨ o + ys.length ≤ q) → w'.cell? ⟨b', q, none⟩ = w.cell? ⟨b', q, none⟩ := fun b' q hq => by
    subst hw'
    exact World.cell?_setCells_out b _ _ w ⟨b', q, none⟩ (fun h1 _ => hq h1)
  have hfz : ∀ x, w'.frozen? x = w.frozen? x := fun x => by subst hw'; exact World.frozen?_setCells b _ _ w x
  have hheap : ∀ k, k ≠ b → w'.heap[k]? = w.heap[k]? := by subst hw'; exact fun k hk => setCells_heap b k hk _ _ w
  have hsize : w'.heap.size = w.heap.size := by subst hw'; exact setCells_size b _ _ w
  have hstr : w'.os = w.os ∧ w'.tape = w.tape ∧ w'.output = w.output := by subst hw'; exact setCells_str b _ _ w
  have hprom : ∀ b' q, q < g.G b' → w'.cell? ⟨b', q, none⟩ = w.cell? ⟨b', q, none⟩ := fun b' q hq => hcout b' q (fun e => by subst e; rw [hA.g0] at hq; omega)
  have h1 := h.dropArr hi hA.k
  have h2 := h1.evolveX (w' := w') (G' := g.G) b (.inl (upd_same _ _ _)) (fun _ => Nat.le_refl _) (fun _ _ _ _ => rfl) hprom
    (fun b' ℓ hne _ q => ⟨hcout b' q (fun e => absurd e hne), hfz _⟩) (Nat.le_of_eq hsize.symm) (fun b' hb' => h.gdom b' (by rw [hsize] at hb'; exact hb'))
  refine ⟨h2, fun j hj => ?_, by rw [hsize]; exact hbl, hcin, fun j hj => hcout b j (fun _ => hj), fun d v hr => hr.mono (fun _ _ h => h) (fun _ => Nat.le_refl _) hprom, fun κ' φ' hk hφ => ?_⟩
  · obtain ⟨⟨u, hu⟩, hf⟩ := hA.cell j hj
    refine ⟨?_, (hfz _).trans hf⟩
    by_cases hjo : j < o ∨ o + ys.length ≤ j
    · exact ⟨u, (hcout b j (fun _ => hjo)).trans hu⟩
    · have hlt : j - o < ys.length := by omega
      refine ⟨ys[j - o], ?_⟩
      have := hcin (j - o) _ (List.getElem?_eq_getElem hlt)
      rwa [show o + (j - o) = j by omega] at this
  · refine ⟨Nat.le_of_eq hsize.symm, hstr.1, hstr.2.1, hstr.2.2, fun b' _ hn => hheap b' ?_, hprom, fun _ => Nat.le_refl _, fun _ _ _ => rfl, hk, hφ⟩
    intro e; subst e; rw [hA.k] at hn; cases hn

end
end Go.Ev

/-! Arrays: the operations. -/
namespace Go.Ev
section
variable {P : Program} {X : Cfg} {R : Type} {w : World}
variable {g : Gh} {env : List D} {sto : Sto} {o : Oper} {a : Act} {k : St → Option R} {r : R} {cx : Cx}

theorem arrAt_some {p} {i : Nat} (h : arrAt sto i = some p) : sto[i]? = some [.arr p.1 p.2] := by
  unfold arrAt at h
  have := arrOf_some h
  rw [← this]
  have hl : i < sto.length := by
    rcases Nat.lt_or_ge i sto.length with h' | h'
    · exact h'
    · rw [List.getD, List.getElem?_eq_none h'] at h; cases h
  simp [List.getD, hl]

/-- The value of a header, and what lies behind it. -/
def ArrV (X : Cfg) (g : Gh) (w : World) (i : Nat) (t : Ty) (l : List t.den) (ao : Option Addr) (cap : Nat) : Prop :=
  (ao = none ∧ l = [] ∧ cap = 0) ∨ ∃ b C, ao = some ⟨b, 0, none⟩ ∧ g.φ[i]? = some (arc b l.length C) ∧ cap ≤ C ∧ SimA X g w i b t l C

theorem Sim.arr_view {vals} (h : Sim X g w env vals sto) {i : Nat} {t : Ty} {l : List t.den} (hi : sto[i]? = some [.arr t l]) {v : Value} (hr : RepV X g.φ g.G w (.hw i) v) :
    ∃ ao cap, v = .slice ao l.length cap ∧ l.length ≤ cap ∧ cap ≤ 9223372036854775807 ∧ ArrV X g w i t l ao cap := by
  obtain ⟨c, hc, hR⟩ := h.sto_blk hi
  unfold SimR arrOf at hR
  dsimp only at hR
  cases hr with
  | hwN h0 =>
    rw [hc] at h0; cases h0
    rcases hR with ⟨_, e⟩ | ⟨b, C, e, _⟩
    · subst e; exact ⟨none, 0, rfl, Nat.le_refl _, by omega, .inl ⟨rfl, rfl, rfl⟩⟩
    · exact absurd e.symm arc_ne
  | hw h0 hn hcap =>
    rw [hc] at h0; cases h0
    rcases hR with ⟨e, _⟩ | ⟨b, C, e, hA⟩
    · exact absurd e arc_ne
    · obtain ⟨rfl, rfl, rfl⟩ := arc_inj e
      have := hA.max
      exact ⟨_, _, rfl, hn, by omega, .inr ⟨_, _, rfl, hc, hcap, hA⟩⟩

theorem Sim.arr_ep {vals} (h : Sim X g w env vals sto) {i : Nat} {t : Ty} {l : List t.den} (hi : sto[i]? = some [.arr t l]) {ty : Ty} {kk off : Nat} {v : Value} (hr : RepV X g.φ g.G w (.ep i ty kk off) v) (hs : ty.size = t.size) :
    ∃ b C, v = .pointer (some ⟨b, kk * t.size + off, none⟩) ∧ g.φ[i]? = some (arc b l.length C) ∧ SimA X g w i b t l C := by
  obtain ⟨c, hc, hR⟩ := h.sto_blk hi
  unfold SimR arrOf at hR
  dsimp only at hR
  cases hr with
  | ep h0 =>
    rw [hc] at h0; cases h0
    rcases hR with ⟨e, _⟩ | ⟨b, C, e, hA⟩
    · exact absurd e arc_ne
    · obtain ⟨rfl, rfl, rfl⟩ := arc_inj e
      rw [hs]
      exact ⟨_, _, rfl, hc, hA⟩

/-- The cells of an array, as a row. -/
theorem ArrV.row {i : Nat} {t : Ty} {l : List t.den} {ao : Option Addr} {cap : Nat} (h : ArrV X g w i t l ao cap) :
    ∃ news, RowOk X g.φ g.G w t l news ∧ ∀ w', w'.heap = w.heap → (Builtin.firstCells t.size l.length (.slice ao l.length cap)).run P w' = .ok news.toArray w' := by
  rcases h with ⟨rfl, rfl, rfl⟩ | ⟨b, C, rfl, _, _, hA⟩
  · exact ⟨[], ⟨by simp, fun i x hx => by simp at hx⟩, fun w' _ => rfl⟩
  · let vs : Nat → Value := fun j => (w.cell? ⟨b, j, none⟩).getD undef
    refine ⟨(List.range (l.length * t.size)).map vs, ⟨by simp, fun i x hx j c hc' => ?_⟩, fun w' hw' => ?_⟩
    · have hi := (List.getElem?_eq_some_iff.1 hx).1
      have hj : j < t.size := by rw [← cells_length t x]; exact (List.getElem?_eq_some_iff.1 hc').1
      obtain ⟨v, hv, hr⟩ := hA.con i x hx j c hc'
      refine ⟨_, range_get vs (cell_idx hi hj), ?_⟩
      simp only [vs, hv]; exact hr
    · refine run_firstCells_some (P := P) w' t.size l.length ⟨b, 0, none⟩ l.length cap _ (by simp) (fun j v hv => ?_)
      have hj : j < l.length * t.size := by have := (List.getElem?_eq_some_iff.1 hv).1; simpa using this
      rw [range_get vs hj] at hv
      have hjC : j < C * t.size := Nat.lt_of_lt_of_le hj (Nat.mul_le_mul_right _ hA.le)
      obtain ⟨⟨u, hu⟩, _⟩ := hA.cell j hjC
      have e : w'.cell? ⟨b, j, none⟩ = w.cell? ⟨b, j, none⟩ := by simp only [World.cell?, hw']
      rw [Addr.add_mid, Nat.zero_add, e, hu]
      simp only [vs, hu] at hv; exact hv

theorem op_xlen (hcx : CxOk P X cx) {x : Operand} {t : TypeId} (ho : o.op = .call { callee := .builtin .len, args := #[x], argTypes := #[t] }) (hs : Sim X g w env a.tmps.toList sto) {te : TE} (ht : look cx.tab t = some te) {e : TypeId} (hd : te.d = .slice e)
    {i : Nat} (hx : rd env x = .hw i) {p} (ha : arrAt sto i = some p) (hk : k ⟨put env o.dst (.int .i64 p.2.length), sto⟩ = some r) : OpOk P X o a w g k r := by
  have hu := desc_slice hcx ht hd
  obtain ⟨ao, cap, hv, h1, h2, _⟩ := hs.arr_view (arrAt_some ha) (hx ▸ hs.read x)
  refine opOk_pure hs (.int .i64 p.2.length) _ ?_ (.int (by simp only [InR, lo, hi]; omega)) rfl hk
  simp [execOp, ho, resolve, invoke, builtin, Builtin.len_, run_underlying hu, hv, goInt]

theorem op_xindex (hcx : CxOk P X cx) (t : TypeId) (x ix : Operand) (ho : o.op = .indexAddr t x ix) (hs : Sim X g w env a.tmps.toList sto) {i : Nat} {kd : IntKind} {n : Int}
    (hx : rd env x = .hw i) {p} (ha : arrAt sto i = some p) (hty : tyOk cx t (.sl .ro p.1 p.2) = true) (hi : rd env ix = .int kd n) {e} (hn : nth p.2 n = some e)
    (hk : k ⟨put env o.dst (.ep i p.1 n.toNat 0), sto⟩ = some r) : OpOk P X o a w g k r := by
  obtain ⟨el, te, hu, _, hte, hts⟩ := tyOk_sl hcx hty
  obtain ⟨h0, h1, h2⟩ := nth_spec hn
  obtain ⟨ao, cap, hv, hl1, hl2, hA⟩ := hs.arr_view (arrAt_some ha) (hx ▸ hs.read x)
  obtain ⟨hvi, _⟩ := rep_int (hi ▸ hs.read ix)
  rcases hA with ⟨_, e0, _⟩ | ⟨b, C, rfl, hφ, _, _⟩
  · rw [e0] at h2; simp at h2
  · refine opOk_pure hs (.pointer (some ⟨b, n.toNat * p.1.size + 0, none⟩)) _ ?_ (.ep hφ) rfl hk
    simp [execOp, ho, hv, hvi, Instr.indexAt, asIntOf, run_underlying hu, h0, h1, run_sizeOf' hte, hts, Addr.add_mid]

theorem op_xfield (hcx : CxOk P X cx) (t : TypeId) (x : Operand) (f : Nat) (ho : o.op = .fieldAddr t x f) (hs : Sim X g w env a.tmps.toList sto) {te : TE} {fs : List FI} {fi : FI}
    (ht : look cx.tab t = some te) (htd : te.d = .struct fs) (hfi : fs[f]? = some fi) (hz : fi.size ≠ 0) {i kk off : Nat} {ty : Ty} (hx : rd env x = .ep i ty kk off)
    (hk : k ⟨put env o.dst (.ep i ty kk (off + fi.off)), sto⟩ = some r) : OpOk P X o a w g k r := by
  have hr := hs.read x
  rw [hx] at hr
  generalize hv : a.eval x = v at hr
  cases hr with
  | ep hφ =>
    rename_i b n C
    obtain ⟨F, hu, hF⟩ := desc_struct hcx ht htd
    obtain ⟨fl, h1, h2, h3, _⟩ := field_get hF hfi
    refine opOk_pure hs (.pointer (some ⟨b, kk * ty.size + (off + fi.off), none⟩)) _ ?_ (.ep hφ) rfl hk
    simp [execOp, ho, hv, Instr.fieldAt, run_underlying hu, h1, Instr.sureAddr, fieldPlace, h3, hz, h2, Addr.add_mid, Nat.add_assoc]

theorem op_xload (t : TypeId) (x : Operand) (ho : o.op = .load t x) (hs : Sim X g w env a.tmps.toList sto) {e : TE} (he : TEok P t e) {i kk off : Nat} {ty : Ty} {p} (ha : arrAt sto i = some p)
    (hx : rd env x = .ep i ty kk off) (hsz : ty.size = p.1.size) (hle : off + e.size ≤ p.1.size) {y} (hy : p.2[kk]? = some y)
    (hk : k ⟨put env o.dst (ofCells e.agg ((((cells p.1 y).drop off).take e.size).map D.dup1)), sto⟩ = some r) : OpOk P X o a w g k r := by
  obtain ⟨b, C, hv, _, hA⟩ := hs.arr_ep (arrAt_some ha) (hx ▸ hs.read x) hsz
  have hcl := cells_length p.1 y
  obtain ⟨v, hrun, hr⟩ := run_loadAt (X := X) (φ := g.φ) (G := g.G) (w := w) he (b := b) (off := kk * p.1.size + off) (cs := ((cells p.1 y).drop off).take e.size) (by simp; omega) (fun j c hj => by
    have hj2 : j < e.size := by have := (List.getElem?_eq_some_iff.1 hj).1; simp at this; omega
    rw [List.getElem?_take] at hj
    simp only [hj2, if_true, List.getElem?_drop] at hj
    obtain ⟨v, h1, h2⟩ := hA.con kk y hy (off + j) c hj
    exact ⟨v, by rw [Nat.add_assoc]; exact h1, h2⟩)
  exact opOk_pure hs v _ (by simp [execOp, ho, hv, hrun]) hr (ofCells_free _ _) hk

theorem idx_ne {p q sz j m : Nat} (hpq : p ≠ q) (hj : j < sz) (hm : m < sz) : p * sz + j ≠ q * sz + m := by
  intro h
  rcases Nat.lt_or_gt_of_ne hpq with h' | h'
  · have : (p + 1) * sz ≤ q * sz := Nat.mul_le_mul_right _ h'
    rw [Nat.succ_mul] at this; omega
  · have : (q + 1) * sz ≤ p * sz := Nat.mul_le_mul_right _ h'
    rw [Nat.succ_mul] at this; omega

theorem op_xstore (t : TypeId) (x y : Operand) (ho : o.op = .store t x y) (hs : Sim X g w env a.tmps.toList sto) {e : TE} (he : TEok P t e) {i kk off : Nat} {ty : Ty} {p} (ha : arrAt sto i = some p)
    (hx : rd env x = .ep i ty kk off) (hsz : ty.size = p.1.size) (hle : off + e.size ≤ p.1.size) (hf : fits (rd env y).cells e.size = true) {old} (hold : p.2[kk]? = some old) {z} (hz : decP p.1 (splice (cells p.1 old) off (rd env y).cells) = some (z, []))
    (hk : k ⟨put (left env y) o.dst (.tup []), sto.set i [.arr p.1 (p.2.set kk z)]⟩ = some r) : OpOk P X o a w g k r := by
  obtain ⟨hlen, hlv, h1⟩ := fits_spec hf
  have hne : (rd env y).cells ≠ [] := by intro e0; rw [e0] at hlen; simp at hlen; omega
  have hi := arrAt_some ha
  obtain ⟨b, C, hv, hφ, hA⟩ := hs.arr_ep hi (hx ▸ hs.read x) hsz
  obtain ⟨hcz, hcr⟩ := cells_rep (hs.read y) hne
  have hkl := (List.getElem?_eq_some_iff.1 hold).1
  have hcl := cells_length p.1 old
  have hkC : kk * p.1.size + p.1.size ≤ C * p.1.size := by
    rw [← Nat.succ_mul]; exact Nat.mul_le_mul_right _ (Nat.lt_of_lt_of_le hkl hA.le)
  have hyl : (a.eval y).cells.toList.length = e.size := by rw [Array.length_toList, hcz, hlen]
  have hfit : kk * p.1.size + off + (a.eval y).cells.toList.length ≤ C * p.1.size := by omega
  obtain ⟨g1, h2, e1, eφ, eG⟩ := hs.take y
  have h2 := h2.drop
  have hl2 : (left env y).length = env.length := by cases y <;> simp [left]
  obtain ⟨κ0, hA1⟩ : ∃ κ0 : Unit, SimA X g1 w i b p.1 p.2 C := ⟨(), by
    obtain ⟨c, hc, hR⟩ := h2.sto_blk hi
    unfold SimR arrOf at hR; dsimp only at hR
    rw [eφ, hφ] at hc; cases hc
    rcases hR with ⟨e0, _⟩ | ⟨b', C', e0, hA'⟩
    · exact absurd e0 arc_ne
    · obtain ⟨rfl, _, rfl⟩ := arc_inj e0; exact hA'⟩
  obtain ⟨h3, hcell3, hb3, hin, hout, hmono, hext⟩ := h2.layArr hi hA1 hfit
  have hzlen : (p.2.set kk z).length = p.2.length := by simp
  -- the cells of the new element
  have hnew : ∀ (j : Nat) c, (cells p.1 z)[j]? = some c → ∃ v, (w.setCells b (kk * p.1.size + off) (a.eval y).cells.toList).cell? ⟨b, kk * p.1.size + j, none⟩ = some v ∧ RepV X g1.φ g1.G (w.setCells b (kk * p.1.size + off) (a.eval y).cells.toList) c v := by
    have hdec := (decP_sound (X := X) (φ := g1.φ) (G := g1.G) (w := w.setCells b (kk * p.1.size + off) (a.eval y).cells.toList) _ _ _ _ hz).2.2
      (fun j => ((w.setCells b (kk * p.1.size + off) (a.eval y).cells.toList).cell? ⟨b, kk * p.1.size + j, none⟩).getD undef) (fun j c hj hc => by
        by_cases hjo : j < off ∨ off + (rd env y).cells.length ≤ j
        · rw [splice_get_out (by rw [hcl, hlen]; exact hle) hjo] at hc
          obtain ⟨u, hu, hr⟩ := hA1.con kk old hold j c hc
          have := hout (kk * p.1.size + j) (by rw [hyl, ← hlen]; omega)
          rw [this, hu]; exact hmono _ _ hr
        · obtain ⟨j', rfl⟩ : ∃ j', j = off + j' := ⟨j - off, by omega⟩
          rw [splice_get_in (by rw [hcl, hlen]; exact hle) (by omega)] at hc
          obtain ⟨u, hu, hr⟩ := hcr j' c hc
          have := hin j' u (by simpa using hu)
          rw [show kk * p.1.size + (off + j') = kk * p.1.size + off + j' by omega, this]
          rw [← eφ, ← eG] at hr
          exact hmono _ _ hr)
    intro j c hj
    have hjs : j < p.1.size := by rw [← cells_length p.1 z]; exact (List.getElem?_eq_some_iff.1 hj).1
    obtain ⟨⟨u, hu⟩, _⟩ := hcell3 (kk * p.1.size + j) (by omega)
    exact ⟨u, hu, by have := hdec j c hj; rw [hu] at this; exact this⟩
  have h4 := h3.setArr (i := i) (b := b) (t := p.1) (l := p.2.set kk z) (C := C) (by simp [(List.getElem?_eq_some_iff.1 hi).1]) (by rw [hzlen]; show g1.φ[i]? = _; rw [eφ]; exact hφ) (upd_same _ _ _) hb3 hA1.g0 (by rw [hzlen]; exact hA1.le) hA1.max hcell3
    (fun q x hq j c hj => by
      rcases get_set_eq hq with ⟨rfl, _, rfl⟩ | ⟨hne, hq⟩
      · exact hnew j c hj
      · have hjs : j < p.1.size := by rw [← cells_length p.1 x]; exact (List.getElem?_eq_some_iff.1 hj).1
        obtain ⟨u, hu, hr⟩ := hA1.con q x hq j c hj
        refine ⟨u, ?_, hmono _ _ hr⟩
        rw [hout _ ?_, hu]
        rw [hyl]
        have hlt := (List.getElem?_eq_some_iff.1 hq).1
        rcases Nat.lt_or_gt_of_ne hne with h' | h'
        · have : (kk + 1) * p.1.size ≤ q * p.1.size := Nat.mul_le_mul_right _ h'
          rw [Nat.succ_mul] at this; omega
        · have : (q + 1) * p.1.size ≤ kk * p.1.size := Nat.mul_le_mul_right _ h'
          rw [Nat.succ_mul] at this; omega)
  rw [List.set_set] at h4
  have h5 := h4.put o.dst (.tup []) undef (.tup rfl (fun j c hj => by simp at hj)) rfl
  obtain ⟨inf, zz, hinf, hs0, _⟩ := he.info
  have hcells : (storeCells ⟨b, kk * p.1.size + off, none⟩ (a.eval y).cells.toList).run P w = .ok () (w.setCells b (kk * p.1.size + off) (a.eval y).cells.toList) := by
    have := run_storeCells_cells (P := P) b (kk * p.1.size + off) (a.eval y).cells.toList 0 w (fun j hj => by
        obtain ⟨⟨u, hu⟩, _⟩ := hA.cell (kk * p.1.size + off + j) (by omega)
        simp [hu]) (fun j hj => by
        obtain ⟨_, hu⟩ := hA.cell (kk * p.1.size + off + j) (by omega)
        simpa using hu)
      (fun u hu => by
        obtain ⟨j, hj⟩ := List.mem_iff_getElem?.1 hu
        have hjl : j < (rd env y).cells.length := by
          have := (List.getElem?_eq_some_iff.1 hj).1
          rw [Array.length_toList, hcz] at this; exact this
        obtain ⟨u', hu', hr⟩ := hcr j ((rd env y).cells[j]) (by simp)
        have : u = u' := by
          have hj' : (a.eval y).cells[j]? = some u := by simpa using hj
          rw [hj'] at hu'; exact Option.some.inj hu'
        subst this
        exact rep_one hr (leaves_get hlv j _ (by simp)))
    simpa using this
  refine ⟨undef, _, _, _, _, .inr ⟨?_, rfl⟩, hk, h5, e1.trans (hext _ _ (fun b' _ hn => ?_) (fun _ _ h => h))⟩
  · have hs2 : (a.eval y).cells.size = inf.size := by rw [hcz, hlen, hs0]
    simp [execOp, ho, hv, Instr.storeAt, Instr.sureAddr, storeVar, sizeOf, typeInfo, hinf, hs2, hcells, Sem.run_bind]
  · have hne : b' ≠ b := by intro e0; subst e0; rw [hA1.k] at hn; cases hn
    show upd (upd g1.κ b none) b _ b' = none
    rw [upd_ne _ _ hne, upd_ne _ _ hne]; exact hn

theorem op_xnil (x : Operand) (ho : o.op = .move x ∨ o.op = .assign x) (hs : Sim X g w env a.tmps.toList sto) (t : Ty) {d : Tmp} (hd : o.dst = some d) (hx : rd env x = .nils)
    (hk : k ⟨env.set d (.hw sto.length), sto ++ [[.arr t []]]⟩ = some r) : OpOk P X o a w g k r := by
  have hr := hs.read x
  rw [hx] at hr
  generalize hv : a.eval x = v at hr
  cases hr
  have h1 := hs.nilRow t
  have h2 := h1.put o.dst (.hw sto.length) (.slice none 0 0) (.hwN (by show (g.φ ++ [0])[sto.length]? = _; rw [← hs.slen]; simp)) rfl
  refine ⟨.slice none 0 0, w, _, _, _, .inl ?_, hk, (by rw [hd] at h2 ⊢; exact h2), .phi g w 0⟩
  rcases ho with ho | ho <;> simp [execOp, ho, hv]

/-- A row of an object in other cells, that stand for the same and own nothing new. -/
theorem Sim.reobj {vals} (h : Sim X g w env vals sto) {i : Nat} {cs cs' : List D} (hi : sto[i]? = some cs) (hrow : ∀ c, g.φ[i]? = some c → SimR X g w i c cs → SimR X g w i c cs')
    (hsl : ∀ (j : Nat) md t l, cs'[j]? = some (.sl md t l) → cs[j]? = some (.sl md t l)) : Sim X g w env vals (sto.set i cs') := by
  refine ⟨h.len, h.rep, by simp [h.slen], ?_, ?_, h.kdom, h.gdom⟩
  · intro j c q hc hj
    rcases get_set_eq hj with ⟨e1, _, e⟩ | ⟨hne, hj⟩
    · subst e1; subst e; exact hrow c hc (h.obj i c cs hc hi)
    · exact h.obj j c q hc hj
  · intro ℓ md ty l' a len cap ho hmd
    refine h.own ℓ md ty l' a len cap ?_ hmd
    generalize hx : D.sl md ty l' = x at ho ⊢
    generalize hy : Value.slice (some a) len cap = y at ho ⊢
    cases ho with
    | leaf hd hv => exact .leaf hd hv
    | agg hd hv hj he => exact .agg hd hv hj he
    | tup hd hv hj he => exact .tup hd hv hj he
    | cell hi' hb hj hv =>
      rcases get_set_eq hi' with ⟨e1, _, e⟩ | ⟨hne, hi'⟩
      · subst e1; subst e; subst hx; exact .cell hi hb (hsl _ _ _ _ hj) hv
      · exact .cell hi' hb hj hv

theorem Sim.wrapCell {vals} (h : Sim X g w env vals sto) {i j : Nat} {cs : List D} (hi : sto[i]? = some cs) (hj : cs[j]? = some .nils) (t : Ty) :
    Sim X { g with φ := g.φ ++ [0] } w env vals (sto.set i (cs.set j (.hw sto.length)) ++ [[.arr t []]]) := by
  have h1 := h.nilRow t
  have hil := (List.getElem?_eq_some_iff.1 hi).1
  have h2 := h1.reobj (i := i) (cs := cs) (cs' := cs.set j (.hw sto.length)) (by rw [List.getElem?_append_left hil]; exact hi) (fun c hc hR => ?_) (fun j' md t l hj' => ?_)
  · rw [List.set_append_left _ _ hil] at h2; exact h2
  · obtain ⟨k, g0, cell⟩ := hR.get hj (by intro _ _ h; cases h)
    have hcell' : ∀ (j' : Nat) c', (cs.set j (.hw sto.length))[j']? = some c' → ∃ u, w.cell? ⟨c, j', none⟩ = some u ∧ w.frozen? ⟨c, j', none⟩ = false ∧ RepV X (g.φ ++ [0]) g.G w c' u := by
      intro j' c' hj'
      rcases get_set_eq hj' with ⟨e1, _, e⟩ | ⟨_, hj'⟩
      · subst e1; subst e
        obtain ⟨u, h1, h2, h3⟩ := cell j _ hj
        refine ⟨u, h1, h2, ?_⟩
        cases h3
        exact .hwN (by rw [← h.slen]; simp)
      · exact cell j' c' hj'
    exact SimR.ofO ⟨k, g0, hcell'⟩ (arrOf_rep (f := fun j => (w.cell? ⟨c, j, none⟩).getD undef) (fun j c hj => by obtain ⟨u, hu, _, hr⟩ := hcell' j c hj; rw [hu]; exact hr))
  · rcases get_set_eq hj' with ⟨_, _, e⟩ | ⟨_, hj'⟩
    · cases e
    · exact hj'

theorem Sim.wrapAll {vals} {i : Nat} : ∀ (l : List (Nat × Ty)) {g : Gh} {A : Sto} {cs : List D}, Sim X g w env vals A → A[i]? = some cs → ∃ g', Sim X g' w env vals (A.set i (wrapAll l A.length cs).1 ++ (wrapAll l A.length cs).2) ∧ Ext g w g' w
  | [], g, A, cs, h, hi => by
    refine ⟨g, ?_, .refl _ _⟩
    have e : A.set i cs = A := by
      apply List.ext_getElem?; intro q
      by_cases e : i = q
      · subst e; rw [List.getElem?_set_self (List.getElem?_eq_some_iff.1 hi).1, hi]
      · rw [List.getElem?_set_ne e]
    simp only [Ev.wrapAll, List.append_nil, e]; exact h
  | (j, t) :: r, g, A, cs, h, hi => by
    unfold Ev.wrapAll
    split
    · rename_i hj
      have h1 := h.wrapCell hi hj t
      have hil := (List.getElem?_eq_some_iff.1 hi).1
      obtain ⟨g2, h2, e2⟩ := Sim.wrapAll r h1 (cs := cs.set j (.hw A.length)) (by rw [List.getElem?_append_left (by simpa using hil)]; simp [hil])
      refine ⟨g2, ?_, (Ext.phi g w 0).trans e2⟩
      simp only [List.length_append, List.length_set, List.length_singleton] at h2
      rw [List.set_append_left _ _ (by simpa using hil), List.set_set] at h2
      simpa [List.append_assoc] using h2
    · exact Sim.wrapAll r h hi

theorem op_xbox (t : TypeId) (x : Operand) (ho : o.op = .box t x) (hs : Sim X g w env a.tmps.toList sto) (h1 : (rd env x).cells ≠ []) (l : List (Nat × Ty))
    (hk : k ⟨put (left env x) o.dst (.ptr sto.length 0), sto ++ ((wrapAll l (sto.length + 1) (rd env x).cells).1 :: (wrapAll l (sto.length + 1) (rd env x).cells).2)⟩ = some r) : OpOk P X o a w g k r := by
  obtain ⟨g0, h0, e0, _⟩ := hs.take x
  obtain ⟨g1, h2, e1⟩ := h0.bury h1 t
  obtain ⟨g2, h3, e2, _⟩ := h2.lay o.dst
  obtain ⟨g3, h4, e3⟩ := Sim.wrapAll (i := sto.length) l h3 (cs := (rd env x).cells) (by simp)
  simp only [List.length_append, List.length_singleton] at h4
  rw [set_snoc _ _ _ rfl, List.append_assoc, List.singleton_append] at h4
  refine ⟨_, _, g3, _, _, .inl ?_, hk, h4, e0.trans (e1.trans (e2.trans e3))⟩
  simp [execOp, ho, Instr.box, newVar, newRow]

/-- An array's row is let go. -/
theorem Sim.deadRow {vals} (h : Sim X g w env vals sto) {i : Nat} {cs : List D} (hi : sto[i]? = some cs) : Sim X g w env vals (sto.set i []) :=
  h.reobj hi (fun c _ _ => by unfold SimR arrOf; exact .inl rfl) (fun j md t l hj => by simp at hj)

/-- An array's block goes over to another row. -/
theorem Sim.seize {vals} (h : Sim X g w env vals sto) {i b : Nat} {t : Ty} {l : List t.den} {C : Nat} (hi : sto[i]? = some [.arr t l]) (hA : SimA X g w i b t l C) {l' : List t.den} (hl : l'.length ≤ C)
    (hcon : ∀ (p : Nat) x, l'[p]? = some x → l[p]? = some x) :
    Sim X { φ := g.φ ++ [arc b l'.length C], G := g.G, κ := upd (upd g.κ b none) b (some (.obj sto.length)) } w env vals (sto.set i [] ++ [[.arr t l']]) := by
  have h1 := (h.dropArr hi hA.k).addRow (arc b l'.length C)
  have hφ : ∀ (i b' : Nat), g.φ[i]? = some b' → (g.φ ++ [arc b l'.length C])[i]? = some b' := fun i b' hb => by
    rw [List.getElem?_append_left (List.getElem?_eq_some_iff.1 hb).1]; exact hb
  have h2 := h1.setArr (i := sto.length) (b := b) (t := t) (l := l') (C := C) (by simp) (by show (g.φ ++ _)[sto.length]? = _; rw [← h.slen]; simp) (upd_same _ _ _) (h.kdom b _ hA.k) hA.g0 hl hA.max hA.cell
    (fun q x hq j c hj => by
      obtain ⟨v, hv, hr⟩ := hA.con q x (hcon q x hq) j c hj
      exact ⟨v, hv, hr.mono hφ (fun _ => Nat.le_refl _) (fun _ _ _ => rfl)⟩)
  rw [set_snoc _ _ _ (by simp)] at h2
  exact h2

theorem take_get? {α : Type} {l : List α} {n p : Nat} {x : α} (h : (l.take n)[p]? = some x) : l[p]? = some x := by
  rw [List.getElem?_take] at h
  split at h
  · exact h
  · cases h

theorem op_xslice (hcx : CxOk P X cx) (t : TypeId) (x : Operand) (lo hi : Option Operand) (ho : o.op = .slice t x lo hi none) (hs : Sim X g w env a.tmps.toList sto) {i : Nat} (hx : rd env x = .hw i) {F : (D → Sto → Option R) → Option R}
    (hF : xSlice cx t o sto i (lo.map (rd env)) (hi.map (rd env)) = some F) (h : F (fun d s => k ⟨put env o.dst d, s⟩) = some r) : OpOk P X o a w g k r := by
  unfold xSlice at hF
  split at hF
  · rename_i p ha
    split at hF
    · rename_i hty
      obtain ⟨e, te, hu, _, hte, hts⟩ := tyOk_sl hcx hty
      have hsz := run_sizeOf' hte w
      rw [hts] at hsz
      obtain ⟨ao, cap, hv, hlc, hmax, hA⟩ := hs.arr_view (arrAt_some ha) (hx ▸ hs.read x)
      have hrun : ∀ hh lw, (Instr.sliceBounds true p.2.length cap (lo.map a.eval) (hi.map a.eval) none).run P w = .ok (lw, hh, cap) w →
          (execOp a.eval o).run P w = .ok (.value (.slice (if cap = lw then ao else ao.map (·.add (lw * p.1.size))) (hh - lw) (cap - lw))) w := by
        intro hh lw h4
        simp [execOp, ho, Instr.sliceAt, run_underlying hu, hv, Instr.slice, h4, hsz]
      split at hF
      · rename_i hlo _
        cases hF
        obtain rfl : lo = none := by cases lo <;> first | rfl | cases hlo
        have h' : (optK (hi.map (rd env)) p.2.length p.2.length fun h => optK ((none : Option Operand).map (rd env)) 0 h fun _ => k ⟨put env o.dst (.hw sto.length), sto.set i [] ++ [[.arr p.1 (p.2.take h)]]⟩) = some r := h
        obtain ⟨hh, lw, h1, h2, h3, h4⟩ := bounds_sound (P := P) (lo := none) (isS := true) hs hlc h'
        have hlw : lw = 0 := by
          cases hi <;> simp [Instr.sliceBounds] at h4
          · exact h4.1.symm
          · rename_i q
            have := h4
            revert this
            cases (Instr.sliceBound (a.eval q) cap .sliceAcap).run P w with
            | ok n w2 => intro h; simp at h; exact h.1.1.symm
            | _ => intro h; cases h
        subst hlw
        have hr := hrun hh 0 h4
        simp only [Nat.sub_zero] at hr
        have htl : (p.2.take hh).length = hh := by simp; omega
        rcases hA with ⟨rfl, hnil, rfl⟩ | ⟨b, C, rfl, hφ, hcC, hA⟩
        · have hh0 : hh = 0 := by rw [hnil] at h3; simpa using h3
          subst hh0
          have h5 := (hs.deadRow (arrAt_some ha)).nilRow p.1
          have h6 := h5.put o.dst (.hw sto.length) (.slice none 0 0) (.hwN (by show (g.φ ++ [0])[sto.length]? = _; rw [← hs.slen]; simp)) rfl
          refine ⟨_, w, _, _, _, .inl (by simpa using hr), h1, ?_, .phi g w 0⟩
          rw [List.take_zero]; exact h6
        · have h5 := hs.seize (arrAt_some ha) hA (l' := p.2.take hh) (by rw [htl]; have := hA.le; omega) (fun q x hq => take_get? hq)
          have hN : (g.φ ++ [arc b (p.2.take hh).length C])[sto.length]? = some (arc b hh C) := by rw [← hs.slen, htl]; simp
          have h6 := h5.put o.dst (.hw sto.length) (.slice (some ⟨b, 0, none⟩) hh cap) (.hw hN (by omega) hcC) rfl
          refine ⟨_, w, _, _, _, .inl ?_, h1, h6, ⟨Nat.le_refl _, rfl, rfl, rfl, fun _ _ _ => rfl, fun _ _ _ => rfl, fun _ => Nat.le_refl _, fun _ _ _ => rfl, fun b' _ hn => ?_, fun i b' hb => ?_⟩⟩
          · rw [hr]; simp [Addr.add_mid]
          · have hne : b' ≠ b := by intro e0; subst e0; rw [hA.k] at hn; cases hn
            show upd (upd g.κ b none) b _ b' = none
            rw [upd_ne _ _ hne, upd_ne _ _ hne]; exact hn
          · show (g.φ ++ _)[i]? = _
            rw [List.getElem?_append_left (List.getElem?_eq_some_iff.1 hb).1]; exact hb
      · cases hF
        obtain ⟨hh, lw, h1, h2, h3, h4⟩ := bounds_sound (P := P) (isS := true) hs hlc h
        have hr := hrun hh lw h4
        refine opOk_pure hs _ _ hr ?_ rfl h1
        by_cases hm : hh - lw = 0
        · rw [hm]; exact .hdE
        · rcases hA with ⟨_, hnil, _⟩ | ⟨b, C, rfl, hφ, hcC, hA⟩
          · rw [hnil] at h3; simp at h3; omega
          · rw [if_neg (by omega)]
            have e : (some (⟨b, 0, none⟩ : Addr)).map (·.add (lw * p.1.size)) = some ⟨b, lw * p.1.size, none⟩ := by simp [Addr.add_mid]
            rw [e]
            exact .hd hφ (by omega) (by omega) (by omega)
    · cases hF
  · cases hF

theorem zeros_list (z : Value) (n : Nat) : (Builtin.zeroCells z.cells n).toList.length = n * z.cells.size := by simp [Builtin.zeroCells]

theorem op_xclear (hcx : CxOk P X cx) {x : Operand} {t : TypeId} (ho : o.op = .call { callee := .builtin .clear, args := #[x], argTypes := #[t] }) (hs : Sim X g w env a.tmps.toList sto) {i lo n : Nat} {ty : Ty} (hx : rd env x = .hd i ty lo n)
    {p0} (ha0 : arrAt sto i = some p0) (hty : ty.size = p0.1.size) {F : (D → Sto → Option R) → Option R} (hF : xClear cx t sto i lo n = some F) (h : F (fun d s => k ⟨put env o.dst d, s⟩) = some r) : OpOk P X o a w g k r := by
  unfold xClear at hF
  simp only [ha0] at hF
  generalize hp : p0 = p at *
  split at hF
  · rename_i e _ _ _ _ _ ht
    have hu := desc_slice hcx ht rfl
    split at hF
    · rename_i d0 sz by0 ag0 ty0 z0 he
      have hte := hcx.tab _ _ he
      split at hF
      · rename_i hsz hdec
        rename_i x0
        cases hF
        have hsz := Nat.eq_of_beq_eq_true hsz
        simp only at h
        split at h
        · rename_i hle
          have hle := Nat.le_of_ble_eq_true hle
          have hi := arrAt_some ha0
          obtain ⟨inf, zv, hinf, his, _, hiz, hzl⟩ := hte.info
          obtain ⟨_, _, h1s, _⟩ := hte.ty _ rfl
          simp only at h1s his hzl
          have hzv : ∀ w, (zeroValue e).run P w = .ok zv w := run_zero hinf hiz
          have same : n = 0 → (∃ ao cap, a.eval x = .slice ao 0 cap) → OpOk P X o a w g k r := by
            rintro hn ⟨ao, cap, hv⟩
            subst hn
            have e0 : sto.set i [.arr p.1 (p.2.take lo ++ (List.replicate 0 x0 ++ p.2.drop (lo + 0)))] = sto := by
              simp only [List.replicate_zero, List.nil_append, Nat.add_zero, List.take_append_drop]
              apply List.ext_getElem?; intro q
              by_cases e : i = q
              · subst e; rw [List.getElem?_set_self (List.getElem?_eq_some_iff.1 hi).1, hi]
              · rw [List.getElem?_set_ne e]
            rw [e0] at h
            have h5 := hs.put o.dst (.tup []) (.tuple #[]) (.tup rfl (fun j c hj => by simp at hj)) rfl
            refine ⟨_, w, _, _, _, .inl ?_, h, h5, .refl _ _⟩
            cases ao <;> simp [execOp, ho, resolve, invoke, builtin, Builtin.clear_, run_underlying hu, hv]
          have hr := hs.read x
          rw [hx] at hr
          generalize hv : a.eval x = v at hr
          cases hr with
          | hdE => exact same rfl ⟨_, _, hv⟩
          | hd hφ hn hc hC =>
            rename_i b n0 C0 cap
            by_cases hn0 : n = 0
            · subst hn0; exact same rfl ⟨_, _, hv⟩
            · obtain ⟨c, hc1, hR⟩ := hs.sto_blk hi
              unfold SimR arrOf at hR; dsimp only at hR
              rw [hφ] at hc1; cases hc1
              obtain ⟨C, hA, rfl, rfl⟩ : ∃ C, SimA X g w i b p.1 p.2 C ∧ n0 = p.2.length ∧ C0 = C := by
                rcases hR with ⟨e0, _⟩ | ⟨b', C', e0, hA'⟩
                · exact absurd e0 arc_ne
                · obtain ⟨rfl, rfl, rfl⟩ := arc_inj e0; exact ⟨_, hA', rfl, rfl⟩
              have hzs : zv.cells.size = p.1.size := by
                have := (zeroL_spec hzl).1
                have hz2 := hte.zlen
                simp only at hz2
                rw [hz2] at this
                rw [← hsz, ← this]; simp
              generalize hys : (Builtin.zeroCells zv.cells n).toList = ys
              have hyl : ys.length = n * p.1.size := by rw [← hys, zeros_list, hzs]
              have hmul : lo * p.1.size + n * p.1.size = (lo + n) * p.1.size := (Nat.add_mul ..).symm
              have hlen : (lo + n) * p.1.size ≤ p.2.length * p.1.size := Nat.mul_le_mul_right _ hle
              have hC : p.2.length * p.1.size ≤ C0 * p.1.size := Nat.mul_le_mul_right _ hA.le
              obtain ⟨h3, hcell3, hb3, hin, hout, hmono, hext⟩ := hs.layArr hi hA (o := lo * p.1.size) (ys := ys) (by omega)
              have hel := zeros_elems (X := X) (g := g) (w := w) hte (i := inf) hzl h1s n
              have hV : (Array.range (n * sz)).map (zv.cells[· % zv.cells.size]!) = Builtin.zeroCells zv.cells n := by
                unfold Builtin.zeroCells; rw [hzs, hsz]
              simp only at hel
              rw [hV] at hel
              have hl' : (p.2.take lo ++ (List.replicate n x0 ++ p.2.drop (lo + n))).length = p.2.length := by simp; omega
              have hdecz := fun (vs : Nat → Value) => (decP_sound (X := X) (φ := g.φ) (G := g.G) (w := w.setCells b (lo * p.1.size) ys) _ _ _ _ hdec).2.2 vs
              have h4 := h3.setArr (i := i) (b := b) (t := p.1) (l := p.2.take lo ++ (List.replicate n x0 ++ p.2.drop (lo + n))) (C := C0) (by simp [(List.getElem?_eq_some_iff.1 hi).1]) (by rw [hl']; exact hφ) (upd_same _ _ _) hb3 hA.g0 (by rw [hl']; exact hA.le) hA.max hcell3
                (fun q y hq j c hj => by
                  have hjs : j < p.1.size := by rw [← cells_length p.1 y]; exact (List.getElem?_eq_some_iff.1 hj).1
                  have hql : q < p.2.length := by rw [← hl']; exact (List.getElem?_eq_some_iff.1 hq).1
                  have old : (q < lo ∨ lo + n ≤ q) → p.2[q]? = some y → ∃ v, (w.setCells b (lo * p.1.size) ys).cell? ⟨b, q * p.1.size + j, none⟩ = some v ∧ RepV X g.φ g.G (w.setCells b (lo * p.1.size) ys) c v := by
                    intro hqo hq'
                    obtain ⟨u, hu, hr⟩ := hA.con q y hq' j c hj
                    refine ⟨u, ?_, hmono _ _ hr⟩
                    rw [hout _ ?_, hu]
                    rcases hqo with h' | h'
                    · have : (q + 1) * p.1.size ≤ lo * p.1.size := Nat.mul_le_mul_right _ h'
                      rw [Nat.succ_mul] at this; omega
                    · have : (lo + n) * p.1.size ≤ q * p.1.size := Nat.mul_le_mul_right _ h'
                      omega
                  by_cases h1q : q < lo
                  · rw [List.getElem?_append_left (by simp; omega)] at hq
                    exact old (.inl h1q) (take_get? hq)
                  · rw [List.getElem?_append_right (by simp; omega)] at hq
                    simp only [List.length_take, Nat.min_eq_left (show lo ≤ p.2.length by omega)] at hq
                    by_cases h2q : q < lo + n
                    · rw [List.getElem?_append_left (by simp; omega), List.getElem?_replicate, if_pos (by omega)] at hq
                      cases hq
                      have hidx : ∀ j', j' < p.1.size → ∃ u, ys[(q - lo) * p.1.size + j']? = some u ∧ ∀ d, z0[j']? = some d → RepV X g.φ g.G w d u := by
                        intro j' hj'
                        have hz0 := hte.zlen
                        simp only at hz0
                        have hzj : j' < z0.length := by omega
                        obtain ⟨_, hrow⟩ := hel.rep (q - lo) z0 (by rw [List.getElem?_replicate, if_pos (by omega)])
                        obtain ⟨u, hu, hr⟩ := hrow j' _ (List.getElem?_eq_getElem hzj)
                        rw [← hsz, ← hys]
                        refine ⟨u, by simpa using hu, fun d hd => ?_⟩
                        rw [List.getElem?_eq_getElem hzj] at hd; cases hd; exact hr
                      have hval := hdecz (fun j' => (ys[(q - lo) * p.1.size + j']?).getD undef) (fun j' c' hj' hc' => by
                        obtain ⟨u, hu, hr⟩ := hidx j' hj'
                        rw [hu]; exact hmono _ _ (hr c' hc')) j c hj
                      obtain ⟨u, hu, _⟩ := hidx j hjs
                      refine ⟨u, ?_, by rw [hu] at hval; exact hval⟩
                      have := hin _ u hu
                      have e1 : lo * p.1.size + ((q - lo) * p.1.size + j) = q * p.1.size + j := by
                        rw [Nat.sub_mul]
                        have : lo * p.1.size ≤ q * p.1.size := Nat.mul_le_mul_right _ (by omega)
                        omega
                      rw [e1] at this; exact this
                    · rw [List.getElem?_append_right (by simp; omega)] at hq
                      simp only [List.length_replicate, List.getElem?_drop] at hq
                      rw [show lo + n + (q - lo - n) = q by omega] at hq
                      exact old (.inr (by omega)) hq)
              rw [List.set_set] at h4
              have h5 := h4.put o.dst (.tup []) (.tuple #[]) (.tup rfl (fun j c hj => by simp at hj)) rfl
              have hcells : (storeCells ⟨b, lo * p.1.size, none⟩ ys).run P w = .ok () (w.setCells b (lo * p.1.size) ys) := by
                have := run_storeCells_cells (P := P) b (lo * p.1.size) ys 0 w (fun j hj => by
                    obtain ⟨⟨u, hu⟩, _⟩ := hA.cell (lo * p.1.size + j) (by omega)
                    simp [hu]) (fun j hj => by
                    obtain ⟨_, hu⟩ := hA.cell (lo * p.1.size + j) (by omega)
                    simpa using hu)
                  (fun u hu => by
                    obtain ⟨j, hj⟩ := List.mem_iff_getElem?.1 hu
                    have hjl := (List.getElem?_eq_some_iff.1 hj).1
                    rw [hyl] at hjl
                    obtain ⟨q1, q2, q3⟩ := idx_split hjl
                    have hz0 := hte.zlen
                    simp only at hz0
                    have hzj : j % p.1.size < z0.length := by omega
                    obtain ⟨_, hrow⟩ := hel.rep (j / p.1.size) z0 (by rw [List.getElem?_replicate, if_pos q1])
                    obtain ⟨u', hu', hr⟩ := hrow (j % p.1.size) _ (List.getElem?_eq_getElem hzj)
                    rw [hsz, q3] at hu'
                    have : u = u' := by
                      rw [← hys] at hj
                      have hj' : (Builtin.zeroCells zv.cells n)[j]? = some u := by simpa using hj
                      rw [hj'] at hu'; exact Option.some.inj hu'
                    subst this
                    obtain ⟨uz, _, hz1⟩ := (zeroL_spec hzl).2 (j % p.1.size) _ (List.getElem?_eq_getElem hzj)
                    exact rep_one hr (zero1_spec (X := X) (φ := g.φ) (G := g.G) (w := w) hz1).2)
                simpa using this
              obtain ⟨m, hm⟩ : ∃ m, n = m + 1 := ⟨n - 1, by omega⟩
              refine ⟨_, _, _, _, _, .inl ?_, h, h5, hext _ _ (fun b' _ hn => ?_) (fun _ _ h => h)⟩
              · rw [hty] at hv
                rw [hm] at hv hys
                simp [execOp, ho, resolve, invoke, builtin, Builtin.clear_, run_underlying hu, hv, hzv, hys, hcells]
              · have hne : b' ≠ b := by intro e0; subst e0; rw [hA.k] at hn; cases hn
                show upd (upd g.κ b none) b _ b' = none
                rw [upd_ne _ _ hne, upd_ne _ _ hne]; exact hn
        · cases h
      · cases hF
    · cases hF
  · cases hF

end
end Go.Ev

/-! Arrays: appends. -/
namespace Go.Ev
section
variable {P : Program} {X : Cfg} {R : Type} {w : World}
variable {g : Gh} {env : List D} {sto : Sto} {o : Oper} {a : Act} {k : St → Option R} {r : R} {cx : Cx}

theorem tailX_sound {vals} (hs : Sim X g w env vals sto) {t : Ty} {y : D} {l : List t.den} (h : tailX sto t y = some l) {vy : Value} (hy : RepV X g.φ g.G w y vy) :
    ∃ news, RowOk X g.φ g.G w t l news ∧ (∀ w', (Builtin.lenOf vy).run P w' = .ok l.length w') ∧ ∀ w', w'.heap = w.heap → (Builtin.firstCells t.size l.length vy).run P w' = .ok news.toArray w' := by
  unfold tailX at h
  split at h
  · split at h
    · rename_i i p ha
      obtain ⟨e, h⟩ := castL_some h
      obtain ⟨t', l'⟩ := p
      simp only at e
      subst e; subst h
      obtain ⟨ao, cap, rfl, _, _, hA⟩ := hs.arr_view (arrAt_some ha) hy
      obtain ⟨news, h1, h2⟩ := hA.row (P := P)
      exact ⟨news, h1, fun _ => rfl, h2⟩
    · cases h
  · exact tail_sound h hy

/-- A new block for an array. -/
theorem Sim.freshArr {vals} (h : Sim X g w env vals sto) {t : Ty} {l : List t.den} (V : Array Value) (elem : TypeId) (fr : Nat × Nat) (C : Nat)
    (hr : ∀ (i : Nat) x, l[i]? = some x → ∀ (j : Nat) c, (cells t x)[j]? = some c → ∃ u, V[i * t.size + j]? = some u ∧ RepV X g.φ g.G w c u)
    (hlen : l.length ≤ C) (hmax : C ≤ 9223372036854775807) (hcap : C * t.size ≤ V.size) (hfr : fr.2 ≤ fr.1 ∨ V.size ≤ fr.1) :
    ∃ g', Sim X g' (w.alloc (.cells V elem fr)) env vals (sto ++ [[.arr t l]]) ∧ Ext g w g' (w.alloc (.cells V elem fr)) ∧ g'.φ = g.φ ++ [arc w.heap.size l.length C] := by
  obtain ⟨h1, e1, hκ⟩ := h.newBlock (.cells V elem fr) 0
  have hb : (w.alloc (.cells V elem fr)).heap[w.heap.size]? = some (.cells V elem fr) := by
    show (w.heap.push (.cells V elem fr))[w.heap.size]? = _
    rw [Array.getElem?_push, if_pos rfl]
  have hcell : ∀ j, (w.alloc (.cells V elem fr)).cell? ⟨w.heap.size, j, none⟩ = V[j]? := fun j => by unfold World.cell?; rw [hb]; rfl
  have hfz : ∀ j, j < V.size → (w.alloc (.cells V elem fr)).frozen? ⟨w.heap.size, j, none⟩ = false := fun j hj => by
    simp only [World.frozen?, hb]
    rcases hfr with h | h
    · by_cases h1 : fr.1 ≤ j
      · have : ¬ j < fr.2 := by omega
        simp [this]
      · simp [h1]
    · have : ¬ fr.1 ≤ j := by omega
      simp [this]
  have h2 := h1.addRow (arc w.heap.size l.length C)
  have hφ : ∀ (i b' : Nat), g.φ[i]? = some b' → (g.φ ++ [arc w.heap.size l.length C])[i]? = some b' := fun i b' hb => by
    rw [List.getElem?_append_left (List.getElem?_eq_some_iff.1 hb).1]; exact hb
  have h3 := h2.setArr (i := sto.length) (b := w.heap.size) (t := t) (l := l) (C := C) (by simp) (by show (g.φ ++ _)[sto.length]? = _; rw [← h.slen]; simp) hκ (by simp) (upd_same _ _ _) hlen hmax
    (fun j hj => by
      have hj' : j < V.size := by omega
      exact ⟨⟨V[j], by rw [hcell]; simp [hj']⟩, hfz j hj'⟩)
    (fun q x hq j c hj => by
      obtain ⟨u, hu, hru⟩ := hr q x hq j c hj
      exact ⟨u, by rw [hcell]; exact hu, hru.mono hφ e1.gmono e1.cell⟩)
  rw [set_snoc _ _ _ rfl] at h3
  refine ⟨_, h3, ⟨e1.size, e1.os, e1.tape, e1.output, e1.blk, e1.cell, e1.gmono, e1.gsame, fun b hb' hn => ?_, hφ⟩, rfl⟩
  show upd g.κ w.heap.size _ b = none
  rw [upd_ne _ _ (Nat.ne_of_lt hb')]; exact hn

theorem isStrSl_spec (hcx : CxOk P X cx) {t2 : TypeId} (h : isStrSl cx t2 = true) : ∃ d2, P.underlying t2 = some d2 ∧ ((∃ e2, d2 = .slice e2) ∨ d2 = .string) := by
  unfold isStrSl at h
  split at h
  · rename_i h1; exact ⟨_, desc_slice hcx h1 rfl, .inl ⟨_, rfl⟩⟩
  · rename_i h1; exact ⟨_, desc_str hcx h1 rfl, .inr rfl⟩
  · cases h

theorem op_xappend (hcx : CxOk P X cx) {x y : Operand} {t t2 : TypeId} (ho : o.op = .call { callee := .builtin .append, args := #[x, y], argTypes := #[t, t2] }) (hs : Sim X g w env a.tmps.toList sto) {i : Nat} (hx : rd env x = .hw i)
    (h2 : isStrSl cx t2 = true) {F : (D → Sto → Option R) → Option R} (hF : xAppend cx t sto i (rd env y) = some F) (h : F (fun d s => k ⟨put env o.dst d, s⟩) = some r) : OpOk P X o a w g k r := by
  obtain ⟨d2, hd2, hd2'⟩ := isStrSl_spec hcx h2
  unfold xAppend at hF
  split at hF
  · rename_i p ha
    split at hF
    · rename_i e _ _ _ _ _ ht
      have hst := desc_slice hcx ht rfl
      split at hF
      · rename_i d0 sz by_ ag et z he
        have hte := hcx.tab _ _ he
        split at hF
        · rename_i l l' hcast htail
          cases hF
          obtain ⟨t', l0⟩ := p
          obtain ⟨e0, hcast⟩ := castL_some hcast
          simp only at e0
          subst e0; subst hcast
          simp only at h
          split at h
          · rename_i hroom
            obtain ⟨ao, cap, hv, hlc, hmax, hA⟩ := hs.arr_view (arrAt_some ha) (hx ▸ hs.read x)
            obtain ⟨news, hn, hlen, hf⟩ := tailX_sound (P := P) hs htail (hs.read y)
            generalize hvy : a.eval y = vy at hlen hf
            obtain ⟨inf, z0, hinf, hisz, hiby, hiz, hzl⟩ := hte.info
            obtain ⟨hts, hta, h1s, h1b⟩ := hte.ty _ rfl
            simp only at hisz hiby hts h1s h1b hzl
            have hise : inf.size = t'.size := hisz.trans hts.symm
            have hrl := room_le hroom
            dsimp only at hv hlc hA ha
            have dead := hs.deadRow (arrAt_some ha)
            have fin : ∀ v w' g' , (Builtin.append_ #[t, t2] o.type #[.slice ao l0.length cap, vy]).run P w = .ok v w' → Sim X g' w' env a.tmps.toList (sto.set i [] ++ [[.arr t' (l0 ++ l')]]) → Ext g w g' w' → RepV X g'.φ g'.G w' (.hw sto.length) v → OpOk P X o a w g k r := by
              intro v w' g' hrun hs' he' hr'
              have h5 := hs'.put o.dst (.hw sto.length) v hr' rfl
              refine ⟨v, w', g', _, _, .inl ?_, h, h5, he'⟩
              simp [execOp, ho, resolve, invoke, builtin, hv, hvy, hrun]
            by_cases hg : cap < l0.length + l'.length
            · -- it grows
              obtain ⟨olds, hol, hfo⟩ := hA.row (P := P)
              have hle : l0.length + l'.length ≤ 140737488355328 := Nat.le_trans (Nat.le_mul_of_pos_right _ h1b) hrl
              have hfit := growslice_fits hg hrl
              rw [← hiby] at hfit
              have hrun := run_append_more (P := P) (w := w) (ty := o.type) (base := ao) (sCap := cap) (sLen := l0.length) (m := l'.length) (x := vy) (olds := olds) (news := news) hst hd2 hd2' hinf hiz (hlen w)
                (by rw [hise]; exact hf w.drew rfl) (by rw [hise]; exact hfo w.drew rfl) hg (by omega) hfit
              have hrow := hol.append hn
              have hzs : z0.cells.size = t'.size := by
                have := (zeroL_spec hzl).1
                have hz2 := hte.zlen
                simp only at hz2
                rw [hz2] at this; rw [← Array.length_toList, this, hts]
              have hge := grownCap_ge w (l0.length + l'.length) cap e
              have hcm : grownCap w (l0.length + l'.length) cap e ≤ maxLen := grownCap_le_maxLen w _ cap e (by unfold maxLen; omega)
              have hlo := hol.len
              have hln := hn.len
              obtain ⟨g', h6, e6, hφ'⟩ := ((hs.alike (Alike.drew w)).deadRow (arrAt_some ha)).freshArr (t := t') (l := l0 ++ l') (olds.toArray ++ news.toArray ++ Builtin.zeroCells z0.cells (grownCap w (l0.length + l'.length) cap e - (l0.length + l'.length))) e (0, 0)
                (grownCap w (l0.length + l'.length) cap e)
                (fun ii x hx j c hc => by
                  obtain ⟨u, hu, hr⟩ := hrow.rep ii x hx j c hc
                  refine ⟨u, ?_, RepV.mono (w := w) (w' := w.drew) (fun _ _ h => h) (fun _ => Nat.le_refl _) (fun _ _ _ => rfl) hr⟩
                  have hj2 := (List.getElem?_eq_some_iff.1 hu).1
                  have hj3 : ii * t'.size + j < (olds.toArray ++ news.toArray).size := by simpa using hj2
                  rw [Array.getElem?_append_left hj3]
                  simp only [List.append_toArray, List.getElem?_toArray]
                  exact hu)
                (by rw [List.length_append]; exact hge) (by unfold maxLen at hcm; exact hcm)
                (by
                  simp only [Array.size_append, List.size_toArray, size_zeroCells, hzs, hlo, hln, ← Nat.add_mul]
                  exact Nat.mul_le_mul_right _ (by omega))
                (.inl (Nat.le_refl _))
              refine fin _ _ g' hrun h6 ((Ext.alike g (Alike.drew w)).trans e6) ?_
              refine .hw (C := grownCap w (l0.length + l'.length) cap e) ?_ hge (Nat.le_refl _)
              rw [hφ', ← hs.slen, List.length_append]; simp
            · rcases hA with ⟨rfl, rfl, rfl⟩ | ⟨b, C, rfl, hφ, hcC, hA⟩
              · have hl' : l' = [] := List.length_eq_zero_iff.1 (by simp at hg; exact List.length_eq_zero_iff.2 hg)
                subst hl'
                have h6 := dead.nilRow t'
                refine fin (.slice none 0 0) w _ ?_ h6 (.phi g w 0) (.hwN (by show (g.φ ++ [0])[sto.length]? = _; rw [← hs.slen]; simp))
                have hf0 := hf w rfl
                have hl0 := hlen w
                simp only [List.length_nil] at hf0 hl0
                rw [← hise] at hf0
                rcases hd2' with ⟨e2, rfl⟩ | rfl <;> simp [Builtin.append_, run_underlying hst, run_underlying hd2, sizeOf, typeInfo, hinf, hl0, hf0]
              · have hcapm : (l0.length + l'.length) * t'.size ≤ C * t'.size := Nat.mul_le_mul_right _ (by omega)
                have hmul : (l0.length + l'.length) * t'.size = l0.length * t'.size + l'.length * t'.size := Nat.add_mul ..
                have hnl := hn.len
                obtain ⟨h3, hcell3, hb3, hin, hout, hmono, hext⟩ := hs.layArr (t := t') (l := l0) (arrAt_some ha) hA (o := l0.length * t'.size) (ys := news) (by omega)
                have hrr := run_append_room (P := P) (w := w) (ty := o.type) (b := b) (off := 0) (sLen := l0.length) (sCap := cap) (m := l'.length) (x := vy) (news := news) hst hd2 hd2' hinf (hlen w)
                  (by rw [hise]; exact hf w rfl) (by rw [hise]; exact hnl) hn.one (by omega)
                  (fun j hj => by
                    rw [hise, Nat.zero_add]
                    obtain ⟨⟨u, hu⟩, _⟩ := hA.cell (l0.length * t'.size + j) (by omega)
                    simp [hu])
                  (fun j hj => by
                    rw [hise, Nat.zero_add]
                    exact (hA.cell (l0.length * t'.size + j) (by omega)).2)
                rw [hise, Nat.zero_add] at hrr
                have h4 := h3.addRow (arc b (l0 ++ l').length C)
                have hφ' : ∀ (i b' : Nat), g.φ[i]? = some b' → (g.φ ++ [arc b (l0 ++ l').length C])[i]? = some b' := fun i b' hb => by
                  rw [List.getElem?_append_left (List.getElem?_eq_some_iff.1 hb).1]; exact hb
                have hmono' : ∀ d v, RepV X g.φ g.G w d v → RepV X (g.φ ++ [arc b (l0 ++ l').length C]) g.G (w.setCells b (l0.length * t'.size) news) d v := fun d v hr => (hmono d v hr).mono hφ' (fun _ => Nat.le_refl _) (fun _ _ _ => rfl)
                have h5 := h4.setArr (i := sto.length) (b := b) (t := t') (l := l0 ++ l') (C := C) (by simp) (by show (g.φ ++ _)[sto.length]? = _; rw [← hs.slen]; simp) (upd_same _ _ _) hb3 hA.g0 (by rw [List.length_append]; omega) hA.max hcell3
                  (fun q x hq j c hj => by
                    have hjs : j < t'.size := by rw [← cells_length t' x]; exact (List.getElem?_eq_some_iff.1 hj).1
                    by_cases hql : q < l0.length
                    · rw [List.getElem?_append_left hql] at hq
                      obtain ⟨u, hu, hr⟩ := hA.con q x hq j c hj
                      refine ⟨u, ?_, hmono' _ _ hr⟩
                      rw [hout _ (.inl (cell_idx hql hjs)), hu]
                    · rw [List.getElem?_append_right (by omega)] at hq
                      obtain ⟨u, hu, hr⟩ := hn.rep _ x hq j c hj
                      refine ⟨u, ?_, hmono' _ _ hr⟩
                      have := hin _ u hu
                      rw [Nat.sub_mul] at this
                      have hm2 : l0.length * t'.size ≤ q * t'.size := Nat.mul_le_mul_right _ (by omega)
                      rw [show l0.length * t'.size + (q * t'.size - l0.length * t'.size + j) = q * t'.size + j by omega] at this
                      exact this)
                rw [set_snoc _ _ _ (by simp)] at h5
                refine fin _ _ _ hrr h5 (hext _ _ (fun b' _ hn' => ?_) hφ') ?_
                · have hne : b' ≠ b := by intro e0; subst e0; rw [hA.k] at hn'; cases hn'
                  show upd (upd g.κ b none) b _ b' = none
                  rw [upd_ne _ _ hne, upd_ne _ _ hne]; exact hn'
                · refine .hw (n := l0.length + l'.length) (C := C) ?_ (by omega) hcC
                  show (g.φ ++ _)[sto.length]? = _
                  rw [← hs.slen, List.length_append]; simp
          · cases h
        · cases hF
      · cases hF
    · cases hF
  · cases hF

end
end Go.Ev

/-! The operation, the region, the code. -/
namespace Go.Ev
section
variable {P : Program} {X : Cfg} {R : Type} {w : World}
variable {g : Gh} {env : List D} {sto : Sto} {o : Oper} {a : Act} {k : St → Option R} {r : R} {cx : Cx}

/-- What an operation is to show: it goes on with a state that the evaluator goes on with. -/
def OpTo (P : Program) (X : Cfg) (o : Oper) (a : Act) (w : World) (g : Gh) (k : St → Option R) (r : R) : Prop :=
  ∀ (next : Act → World → Prop) (Q : Exit → Act → World → Prop),
    (∀ v w' g' env' sto', k ⟨env', sto'⟩ = some r → Sim X g' w' env' (putV a.tmps.toList o.dst v) sto' → Ext g w g' w' → next (a.put o.dst v) w') → o.wp P a w next Q

theorem OpOk.to (h : OpOk P X o a w g k r) : OpTo P X o a w g k r := fun _ _ hn => h.wp hn

theorem evOp_sound (hcx : CxOk P X cx) {hc : FuncId → List D → Sto → (D → Sto → Option R) → Option R} (hok : HcOk P X hc) {rest : List Oper}
    (hs : Sim X g w env a.tmps.toList sto) (h : evOp cx hc rest o ⟨env, sto⟩ k = some r) : OpTo P X o a w g k r := by
  unfold evOp at h
  split at h
  · rename_i x ho
    split at h
    · exact (op_move x (.inl ho) hs h).to
    · exact (op_copy x ho hs h).to
  · rename_i x ho
    exact (op_move x (.inr ho) hs h).to
  · rename_i c x y ho
    split at h
    · rename_i t hc0
      split at h
      · exact (op_pick c x y ho hs true hc0 h).to
      · exact (op_pick c x y ho hs false hc0 h).to
    · cases h
  · rename_i t ho
    split at h
    · cases h
    · rename_i e hne ht
      have hte := hcx.tab _ _ ht
      refine (op_alloc t ho hs hte ?_ h).to
      intro e0
      obtain ⟨d, sz, by_, ag, ty, z⟩ := e
      simp only at e0
      subst e0
      exact hne _ _ _ _ _ rfl
    · cases h
  · rename_i t x ho
    split at h
    · split at h
      · rename_i hf
        obtain ⟨hl, _, h1⟩ := fits_spec hf
        exact (op_box t x ho hs (by intro e; rw [e] at hl; simp at hl; omega) h).to
      · cases h
    · cases h
  · rename_i t parts ho
    split at h
    · rename_i ht
      split at h
      · rename_i hf
        exact (op_build hcx ho hs ht rfl hf h).to
      · cases h
    · cases h
  · rename_i t len parts ho
    split at h
    · rename_i ht
      split at h
      · rename_i he
        split at h
        · rename_i hf
          split at h
          · rename_i hd
            split at h
            · rename_i hle
              exact (op_buildSlice hcx ho hs ht rfl he rfl hf hd (Nat.le_of_ble_eq_true hle) h).to
            · cases h
          · cases h
        · cases h
      · cases h
    · cases h
  · rename_i t x ho
    split at h
    · rename_i e ht
      have hte := hcx.tab _ _ ht
      split at h
      · rename_i i off hx
        split at h
        · rename_i cs hi
          split at h
          · rename_i hle
            have hle := Nat.le_of_ble_eq_true hle
            split at h
            · rename_i hag hst hlf
              have h1 := hte.one hag
              have hget : cs[off]? = some (cs.getD off .any) := by simp [List.getD, show off < cs.length by omega]
              exact (op_loadTake t x ho hs hte hag hx hi hget hlf h).to
            · exact (op_load t x ho hs hte hx hi hle h).to
          · cases h
        · cases h
      · rename_i cs hx
        split at h
        · rename_i hle
          exact (op_loadBox t x ho hs hte hx (Nat.le_of_ble_eq_true hle) h).to
        · cases h
      · cases h
    · cases h
  · rename_i t x y ho
    split at h
    · rename_i e ht
      have hte := hcx.tab _ _ ht
      split at h
      · rename_i i off hx
        split at h
        · rename_i cs hi
          split at h
          · rename_i hle hf
            exact (op_store t x y ho hs hte hx hi (Nat.le_of_ble_eq_true hle) hf h).to
          · cases h
        · cases h
      · cases h
    · cases h
  · rename_i x ho
    split at h
    · rename_i i off hx
      exact (op_nilCheck x ho hs (.inl ⟨_, _, hx⟩) (by rw [hx]; exact h)).to
    · rename_i cs hx
      exact (op_nilCheck x ho hs (.inr (.inl ⟨_, hx⟩)) (by rw [hx]; exact h)).to
    · rename_i f cs hx
      exact (op_nilCheck x ho hs (.inr (.inr ⟨_, _, hx⟩)) (by rw [hx]; exact h)).to
    · cases h
  · rename_i op t x y yt ho
    obtain ⟨d, v, hk, hf, hr, hrun⟩ := binK_sound (P := P) hcx h (hs.read x) (hs.read y) x y rfl
    refine (opOk_pure hs v d ?_ hr hf hk).to
    simp only [execOp, ho]
    rw [Sem.run_bind, hrun]; rfl
  · rename_i op t x ho
    obtain ⟨d, v, hk, hf, hr, hrun⟩ := unK_sound (P := P) (w := w) h (hs.read x)
    exact (opOk_pure hs v d (by simp [execOp, ho, hrun]) hr hf hk).to
  · rename_i src dst x ho
    split at h
    · rename_i m l hsrc heq hx
      have heq' := Nat.eq_of_beq_eq_true heq
      subst heq'
      split at h
      · rename_i he
        split at h
        · exact (op_convMark hcx ho hs (by simp) hsrc rfl he rfl hx h).to
        · cases h
      · cases h
    · unfold convK at h
      split at h
      · rename_i hsrc hdst hx
        exact (op_convInt hcx ho hs hsrc hdst rfl hx h).to
      · rename_i hsrc hdst hx
        exact (op_convStr hcx ho hs hsrc hdst rfl hx h).to
      · rename_i hsrc hdst hx
        split at h
        · rename_i he
          exact (op_convToBytes hcx ho hs hsrc hdst rfl he rfl hx h).to
        · cases h
      · rename_i hsrc hdst hx
        split at h
        · rename_i he
          exact (op_convBytes hcx ho hs hsrc rfl hdst rfl he rfl (.inl ⟨_, hx⟩) h).to
        · cases h
      · rename_i hsrc hdst hx
        split at h
        · rename_i he
          exact (op_convBytes hcx ho hs hsrc rfl hdst rfl he rfl (.inr ⟨hx, rfl⟩) h).to
        · cases h
      · cases h
  · rename_i t x lo hi mx ho
    split at h
    · rename_i hty
      exact (op_slice hcx t x lo hi mx ho hs hty h).to
    · cases h
  · rename_i t x f ho
    split at h
    · rename_i ht
      split at h
      · rename_i fi hfi
        split at h
        · rename_i i off hz hx
          exact (op_fieldAddr hcx t x f ho hs ht rfl hfi (by intro e; rw [e] at hz; cases hz) (.inl ⟨_, _, hx, h⟩)).to
        · rename_i cs hz hx
          split at h
          · rename_i hle
            exact (op_fieldAddr hcx t x f ho hs ht rfl hfi (by intro e; rw [e] at hz; cases hz) (.inr ⟨_, hx, Nat.le_of_ble_eq_true hle, h⟩)).to
          · cases h
        · cases h
      · cases h
    · cases h
  · rename_i t x f ho
    split at h
    · rename_i ht
      split at h
      · rename_i hfi hx
        split at h
        · rename_i hle
          exact (op_field hcx t x f ho hs ht rfl hfi hx (Nat.le_of_ble_eq_true hle) h).to
        · cases h
      · cases h
    · cases h
  · rename_i t x ix ho
    split at h
    · rename_i ht hx hi
      split at h
      · rename_i hty
        obtain ⟨e, he, hk⟩ := Option.bind_eq_some_iff.1 h
        exact (op_indexSl hcx t x ix ho hs hx hty hi he hk).to
      · cases h
    · rename_i ht hx hi
      split at h
      · rename_i hte
        split at h
        · rename_i hb
          exact (op_indexArr hcx t x ix ho hs ht rfl hte hx hi (of_decide_eq_true hb) h).to
        · cases h
      · cases h
    · cases h
  · rename_i t x ix ho
    split at h
    · rename_i ht hx hi
      obtain ⟨b, hb, hk⟩ := Option.bind_eq_some_iff.1 h
      exact (op_indexStr hcx t x ix ho hs ht rfl hx hi hb hk).to
    · rename_i ht hx hi
      split at h
      · rename_i hte
        split at h
        · rename_i hb hle
          exact (op_indexAgg hcx t x ix ho hs ht rfl hte hx hi (of_decide_eq_true hb) (Nat.le_of_ble_eq_true hle) h).to
        · cases h
      · cases h
    · cases h
  · rename_i x i ho
    split at h
    · rename_i cs hx
      split at h
      · rename_i c hc0
        split at h
        · rename_i hlf
          exact (op_extract ho hs hx hc0 (.inr hlf) h).to
        · have hr := hs.read x
          rw [hx] at hr
          generalize hv : a.eval x = v at hr
          cases hr with
          | tup hl hcr =>
            rename_i vs
            have hci := hcr i c hc0
            have hilt : i < vs.size := by rw [hl]; exact (List.getElem?_eq_some_iff.1 hc0).1
            exact (opOk_pure hs (vs.getD i undef) _ (by simp [execOp, ho, hv, Instr.extract, hilt]) hci.dup (dup_free _) h).to
      · cases h
    · cases h
  · rename_i f first caps ho
    split at h
    · rename_i hfirst
      have e : first = #[] := by apply Array.ext'; exact hfirst
      subst e
      exact (op_makeFunc ho hs h).to
    · cases h
  · rename_i args ats ho
    split at h
    · rename_i x t hargs hats
      have ho' : o.op = .call { callee := .builtin .len, args := #[x], argTypes := #[t] } := by
        rw [ho]
        have e1 : args = #[x] := by apply Array.ext'; exact hargs
        have e2 : ats = #[t] := by apply Array.ext'; exact hats
        rw [e1, e2]
      split at h
      · rename_i ht hx
        exact (op_len hcx ho' hs ht (.inl ⟨rfl, _, hx, rfl⟩) h).to
      · rename_i ht hx
        exact (op_len hcx ho' hs ht (.inr (.inl ⟨_, rfl, by rw [hx]; rfl, by rw [hx]; intro s h; cases h⟩)) h).to
      · rename_i ht hx
        exact (op_len hcx ho' hs ht (.inr (.inl ⟨_, rfl, by rw [hx]; rfl, by rw [hx]; intro s h; cases h⟩)) h).to
      · rename_i ht
        split at h
        · rename_i hle
          exact (op_len hcx ho' hs ht (.inr (.inr ⟨_, _, rfl, rfl, Nat.le_of_ble_eq_true hle⟩)) h).to
        · cases h
      · cases h
    · cases h
  · rename_i args ats ho
    split at h
    · rename_i x y t t2 hargs hats
      have ho' : o.op = .call { callee := .builtin .append, args := #[x, y], argTypes := #[t, t2] } := by
        rw [ho]
        have e1 : args = #[x, y] := by apply Array.ext'; exact hargs
        have e2 : ats = #[t, t2] := by apply Array.ext'; exact hats
        rw [e1, e2]
      have fin : ∀ d2, P.underlying t2 = some d2 → ((∃ e2, d2 = .slice e2) ∨ d2 = .string) → appendK cx t (rd env x) (rd env y) (fun d => k ⟨put (left env x) o.dst d, sto⟩) = some r → OpTo P X o a w g k r := by
        intro d2 ht2 hd2 h
        obtain ⟨g1, h1, e1, eφ, eG⟩ := hs.take x
        have hy : RepV X g1.φ g1.G w (rd env y) (a.eval y) := (hs.read y).mono e1.φ e1.gmono e1.cell
        obtain ⟨d, hk, v, w', g2, hrun, h2, e2⟩ := appendK_sound (P := P) (ty := o.type) hcx h h1 hy ht2 hd2
        obtain ⟨g3, h3, e3, _⟩ := h2.lay o.dst
        refine OpOk.to ⟨v, w', g3, _, _, .inl ?_, hk, h3, e1.trans (e2.trans e3)⟩
        simp [execOp, ho', resolve, invoke, builtin, hrun]
      split at h
      · rename_i ht2
        exact fin _ (desc_slice hcx ht2 rfl) (.inl ⟨_, rfl⟩) h
      · rename_i ht2
        exact fin _ (desc_str hcx ht2 rfl) (.inr rfl) h
      · cases h
    · cases h
  · rename_i fo args ats ho
    split at h
    · rename_i f caps hf
      generalize hargs : argsOf env ((look cx.want f).getD []) 0 args.toList = p at h
      obtain ⟨ds, env'⟩ := p
      intro next Q hn
      exact op_call hok ho hs hf hargs h hn
    · cases h
  · cases h

end
end Go.Ev

/-! Arrays: each operation is right. -/
namespace Go.Ev
section
variable {P : Program} {X : Cfg} {R : Type} {w : World}
variable {g : Gh} {env : List D} {sto : Sto} {o : Oper} {a : Act} {k : St → Option R} {r : R} {cx : Cx}

theorem left_hw {x : Operand} {i : Nat} (hx : rd env x = .hw i) : left env x = env := by
  cases x <;> try rfl
  rename_i t
  have hx : env.getD t .any = .hw i := hx
  show env.set t (env.getD t .any).dup = env
  rw [hx]
  show env.set t (.hw i) = env
  have hlt : t < env.length := by
    rcases Nat.lt_or_ge t env.length with h | h
    · exact h
    · simp [List.getD, List.getElem?_eq_none h] at hx
  have : env[t] = .hw i := by simpa [List.getD, List.getElem?_eq_getElem hlt] using hx
  rw [← this, List.set_getElem_self]

/-- An array's contents are laid behind a slice. -/
theorem op_xtail (hcx : CxOk P X cx) {x y : Operand} {t t2 : TypeId} (ho : o.op = .call { callee := .builtin .append, args := #[x, y], argTypes := #[t, t2] }) (hs : Sim X g w env a.tmps.toList sto) {j : Nat} (hy : rd env y = .hw j)
    (h2 : isStrSl cx t2 = true) {p} (ha : arrAt sto j = some p) (h : appendK cx t (rd env x) (.sl .ro p.1 p.2) (fun d => k ⟨put (left env x) o.dst d, sto⟩) = some r) : OpOk P X o a w g k r := by
  obtain ⟨d2, hd2, hd2'⟩ := isStrSl_spec hcx h2
  obtain ⟨g1, h1, e1, eφ, eG⟩ := hs.take x
  have hry : RepV X g1.φ g1.G w (.hw j) (a.eval y) := (hy ▸ hs.read y).mono e1.φ e1.gmono e1.cell
  obtain ⟨d, hk, v, w', g2, hrun, h3, e2⟩ := appendK_soundT (P := P) (ty := o.type) (vy := a.eval y) hcx h h1 (fun {t l} ht => by
    refine tailX_sound (P := P) h1 (t := t) (y := .hw j) ?_ hry
    show (match arrAt sto j with | some p => castL p.1 t p.2 | none => none) = some l
    rw [ha]
    exact ht) hd2 hd2'
  obtain ⟨g3, h4, e3, _⟩ := h3.lay o.dst
  refine ⟨v, w', g3, _, _, .inl ?_, hk, h4, e1.trans (e2.trans e3)⟩
  simp [execOp, ho, resolve, invoke, builtin, hrun]

/-- A slice without an element, as an array. -/
theorem op_xbuild (hcx : CxOk P X cx) {t e : TypeId} {parts : Array (Nat × Operand)} (ho : o.op = .buildSlice t 0 parts) (hp : parts.toList = []) (hs : Sim X g w env a.tmps.toList sto) {ts te : TE} (ty : Ty)
    (h1 : look cx.tab t = some ts) (hd : ts.d = .slice e) (h2 : look cx.tab e = some te) (hk : k ⟨put env o.dst (.hw sto.length), sto ++ [[.arr ty []]]⟩ = some r) : OpOk P X o a w g k r := by
  have hu := desc_slice hcx h1 hd
  have hte := hcx.tab _ _ h2
  obtain ⟨i, z, hi, hisz, hiby, hz, hzl⟩ := hte.info
  have hps : parts = #[] := by apply Array.ext'; exact hp
  subst hps
  obtain ⟨g1, h3, e1, hφ⟩ := hs.freshArr (t := ty) (l := []) #[] e (0, 0) 0 (fun _ _ h => by cases h) (Nat.le_refl _) (by omega) (by simp) (.inl (Nat.le_refl _))
  have hr : RepV X g1.φ g1.G (w.alloc (.cells #[] e)) (.hw sto.length) (.slice (some ⟨w.heap.size, 0, none⟩) 0 0) := by
    refine .hw (C := 0) ?_ (Nat.le_refl _) (Nat.le_refl _)
    rw [hφ, ← hs.slen]; simp
  have h5 := h3.put o.dst (.hw sto.length) _ hr rfl
  refine ⟨_, _, g1, _, _, .inl ?_, hk, h5, e1⟩
  have hrun := run_buildSlice (P := P) (w := w) (len := 0) hu hi hz (ps := #[]) (V := #[]) (by omega) (by simp [Instr.fill])
  simp only [execOp, ho, Sem.run_bind]
  rw [Array.map_empty, hrun]
  rfl

theorem xV_sound (hcx : CxOk P X cx) (hs : Sim X g w env a.tmps.toList sto) {F : (D → Sto → Option R) → Option R} (hF : xV cx o (rd env) sto = some F) (h : F (fun d s => k ⟨put (xL o env) o.dst d, s⟩) = some r) : OpOk P X o a w g k r := by
  unfold xV at hF
  split at hF
  · rename_i x ho
    have hL : xL o env = env := by simp [xL, ho]
    rw [hL] at h
    split at hF
    · rename_i d hd
      split at hF
      · rename_i hx
        cases hF
        rw [hd] at h
        exact op_xnil x (.inl ho) hs _ hd hx h
      · cases hF
    · cases hF
  · rename_i x ho
    have hL : xL o env = env := by simp [xL, ho]
    rw [hL] at h
    split at hF
    · rename_i d hd
      split at hF
      · rename_i hx
        cases hF
        rw [hd] at h
        exact op_xnil x (.inr ho) hs _ hd hx h
      · cases hF
    · cases hF
  · rename_i t x ho
    have hL : xL o env = left env x := by simp [xL, ho]
    rw [hL] at h
    split at hF
    · split at hF
      · cases hF
        split at h
        · rename_i hf
          obtain ⟨hl, _, h1⟩ := fits_spec hf
          exact op_xbox t x ho hs (by intro e; rw [e] at hl; simp at hl; omega) _ h
        · cases h
      · cases hF
    · cases hF
  · rename_i t x ho
    have hL : xL o env = env := by simp [xL, ho]
    rw [hL] at h
    split at hF
    · rename_i e i ty kk off ht hx
      split at hF
      · rename_i p ha
        split at hF
        · rename_i h1 h2
          cases hF
          obtain ⟨y, hy, hk⟩ := Option.bind_eq_some_iff.1 h
          exact op_xload t x ho hs (hcx.tab _ _ ht) ha hx (Nat.eq_of_beq_eq_true h1) (Nat.le_of_ble_eq_true h2) hy hk
        · cases hF
      · cases hF
    · cases hF
  · rename_i t x y ho
    have hL : xL o env = left env y := by simp [xL, ho]
    rw [hL] at h
    split at hF
    · rename_i e i ty kk off ht hx
      split at hF
      · rename_i p ha
        split at hF
        · rename_i h1 h2 h3
          cases hF
          obtain ⟨z, hz, hk⟩ := Option.bind_eq_some_iff.1 h
          split at hk
          · rename_i hd
            exact op_xstore t x y ho hs (hcx.tab _ _ ht) ha hx (Nat.eq_of_beq_eq_true h1) (Nat.le_of_ble_eq_true h2) h3 hz hd hk
          · cases hk
        · cases hF
      · cases hF
    · cases hF
  · rename_i t x f ho
    have hL : xL o env = env := by simp [xL, ho]
    rw [hL] at h
    split at hF
    · rename_i ht hx
      split at hF
      · rename_i fi hfi
        split at hF
        · rename_i hz
          cases hF
          exact op_xfield hcx t x f ho hs ht rfl hfi (by intro e; rw [e] at hz; cases hz) hx h
        · cases hF
      · cases hF
    · cases hF
  · rename_i t x ix ho
    have hL : xL o env = env := by simp [xL, ho]
    rw [hL] at h
    split at hF
    · rename_i hx hi
      split at hF
      · rename_i p ha
        split at hF
        · rename_i hty
          cases hF
          obtain ⟨e, he, hk⟩ := Option.bind_eq_some_iff.1 h
          exact op_xindex hcx t x ix ho hs hx ha hty hi he hk
        · cases hF
      · cases hF
    · cases hF
  · rename_i t x lo hi ho
    have hL : xL o env = env := by simp [xL, ho]
    rw [hL] at h
    split at hF
    · rename_i hx
      exact op_xslice hcx t x lo hi ho hs hx hF h
    · cases hF
  · rename_i args ats ho
    have hL : xL o env = env := by simp [xL, ho]
    rw [hL] at h
    split at hF
    · rename_i x t hargs hats
      have ho' : o.op = .call { callee := .builtin .len, args := #[x], argTypes := #[t] } := by
        rw [ho]
        have e1 : args = #[x] := by apply Array.ext'; exact hargs
        have e2 : ats = #[t] := by apply Array.ext'; exact hats
        rw [e1, e2]
      split at hF
      · rename_i hx ht
        split at hF
        · rename_i p ha
          cases hF
          exact op_xlen hcx ho' hs ht rfl hx ha h
        · cases hF
      · cases hF
    · cases hF
  · rename_i args ats ho
    split at hF
    · rename_i x y t t2 hargs hats
      have hL : xL o env = left env x := by simp [xL, ho, hargs]
      rw [hL] at h
      have ho' : o.op = .call { callee := .builtin .append, args := #[x, y], argTypes := #[t, t2] } := by
        rw [ho]
        have e1 : args = #[x, y] := by apply Array.ext'; exact hargs
        have e2 : ats = #[t, t2] := by apply Array.ext'; exact hats
        rw [e1, e2]
      split at hF
      · rename_i hx ht2
        rw [left_hw hx] at h
        exact op_xappend hcx ho' hs hx ht2 hF h
      · rename_i ht2 _
        split at hF
        · rename_i hy
          split at hF
          · rename_i p ha
            cases hF
            exact op_xtail hcx ho' hs hy ht2 ha h
          · cases hF
        · cases hF
      · cases hF
    · cases hF
  · rename_i args ats ho
    have hL : xL o env = env := by simp [xL, ho]
    rw [hL] at h
    split at hF
    · rename_i x t hargs hats
      have ho' : o.op = .call { callee := .builtin .clear, args := #[x], argTypes := #[t] } := by
        rw [ho]
        have e1 : args = #[x] := by apply Array.ext'; exact hargs
        have e2 : ats = #[t] := by apply Array.ext'; exact hats
        rw [e1, e2]
      split at hF
      · rename_i hx
        split at hF
        · rename_i p ha
          split at hF
          · rename_i hb
            exact op_xclear hcx ho' hs hx ha (Nat.eq_of_beq_eq_true hb) hF h
          · cases hF
        · cases hF
      · cases hF
    · cases hF
  · rename_i t len parts ho
    have hL : xL o env = env := by simp [xL, ho]
    rw [hL] at h
    split at hF
    · split at hF
      · rename_i hp
        split at hF
        · rename_i h0 ht
          split at hF
          · rename_i he
            cases hF
            obtain rfl := Nat.eq_of_beq_eq_true h0
            exact op_xbuild hcx ho hp hs _ ht rfl he h
          · cases hF
        · cases hF
      · cases hF
    · cases hF
  · rename_i x i ho
    have hL : xL o env = env := by simp [xL, ho]
    rw [hL] at h
    split at hF
    · rename_i cs hx
      split at hF
      · rename_i c hc0
        cases hF
        have hr := hs.read x
        rw [hx] at hr
        generalize hv : a.eval x = v at hr
        cases hr with
        | tup hl hcr =>
          rename_i vs
          have hci := hcr i c hc0
          have hilt : i < vs.size := by rw [hl]; exact (List.getElem?_eq_some_iff.1 hc0).1
          exact opOk_pure hs (vs.getD i undef) _ (by simp [execOp, ho, hv, Instr.extract, hilt]) hci.dup (dup_free _) h
      · cases hF
    · cases hF
  · cases hF

theorem evOpN_sound (hcx : CxOk P X cx) {hc : FuncId → List D → Sto → (D → Sto → Option R) → Option R} (hok : HcOk P X hc) {rest : List Oper}
    (hs : Sim X g w env a.tmps.toList sto) (h : evOpN cx hc rest o ⟨env, sto⟩ k = some r) : OpTo P X o a w g k r := by
  unfold evOpN at h
  split at h
  · exact evOp_sound hcx hok hs h
  · split at h
    · rename_i F hF
      exact (xV_sound hcx hs hF h).to
    · exact evOp_sound hcx hok hs h

end
end Go.Ev

/-! Regions and code. -/
namespace Go.Ev
section
variable {P : Program} {X : Cfg} {R : Type} {cx : Cx}

theorem Sim.setSame {g : Gh} {w : World} {env : List D} {vals : List Value} {sto : Sto} (h : Sim X g w env vals sto) {t : Nat} {d : D} {v : Value} (hv : vals[t]? = some v) (hr : RepV X g.φ g.G w d v) (hf : d.free = true) :
    Sim X g w (env.set t d) vals sto := by
  have h1 := h.set t d v hr hf
  have e : vals.set t v = vals := by
    apply List.ext_getElem?; intro i
    by_cases e : t = i
    · subst e; rw [List.getElem?_set_self (List.getElem?_eq_some_iff.1 hv).1, hv]
    · rw [List.getElem?_set_ne e]
  rw [e] at h1; exact h1

theorem Sim.getB {g : Gh} {w : World} {env : List D} {sto : Sto} {a : Act} (h : Sim X g w env a.tmps.toList sto) {t : Nat} {d : D} (hd : env.getD t .any = d) (hne : d ≠ .any) :
    ∃ v, a.tmps[t]? = some v ∧ RepV X g.φ g.G w d v := by
  have ht : t < env.length := by
    rcases Nat.lt_or_ge t env.length with h' | h'
    · exact h'
    · rw [getD_out h'] at hd; exact absurd hd.symm hne
  have hv : t < a.tmps.size := Nat.lt_of_lt_of_eq ht (h.len.trans Array.length_toList)
  refine ⟨a.tmps[t], by simp [hv], ?_⟩
  have := h.rep t _ a.tmps[t] (rd_tmp_get ht) (by simp [hv])
  rw [hd] at this; exact this

theorem gOp_sound (hcx : CxOk P X cx) {hc : FuncId → List D → Sto → (D → Sto → Option R) → Option R} (hok : HcOk P X hc) {ops : Array Oper} {o : Oper} {Q : Exit → Act → World → Prop} {next : Act → World → Prop} {k : St → Option R} {r : R}
    {env : List D} {sto : Sto} {a : Act} {w : World} {g : Gh} (h : gOp cx hc ops o ⟨env, sto⟩ k = some r) (hs : Sim X g w env a.tmps.toList sto) (hd : a.defers = [])
    (hn : ∀ a' w' g' env' sto', k ⟨env', sto'⟩ = some r → Sim X g' w' env' a'.tmps.toList sto' → Ext g w g' w' → a'.defers = [] → next a' w') :
    if Region.wanted o (yielded ops a.tmps) then o.wp P a w next Q ∨ (o.asks P a w ∧ LetsOut Q) else next (a.put o.dst undef) w := by
  have run : ∀ env, evOpN cx hc ops.toList o ⟨env, sto⟩ k = some r → Sim X g w env a.tmps.toList sto → o.wp P a w next Q := by
    intro env h hs
    refine evOpN_sound hcx hok hs h _ _ (fun v w' g' env' sto' hk hs' he => ?_)
    rw [← Act.put_toList] at hs'
    exact hn _ w' g' env' sto' hk hs' he (by rw [Ev.Act.put_defers]; exact hd)
  have skip : ∀ env, k ⟨put env o.dst (.tup []), sto⟩ = some r → Sim X g w env a.tmps.toList sto → next (a.put o.dst undef) w := by
    intro env h hs
    have h1 := hs.put o.dst (.tup []) undef (.tup rfl (fun j c hj => by simp at hj)) rfl
    rw [← Act.put_toList] at h1
    exact hn _ w g _ sto h h1 (.refl _ _) (by rw [Ev.Act.put_defers]; exact hd)
  unfold gOp guardK at h
  split at h
  · rename_i hg
    rw [if_pos (by simp [Region.wanted, hg])]
    exact .inl (run env h hs)
  · rename_i j want hg
    split at h
    · rename_i d hdst
      have hy : ∀ b : Bool, a.tmps[d]? = some (.bool b) → yielded ops a.tmps j = some b := by
        intro b hb
        unfold dstOf at hdst
        simp [yielded, hdst, hb]
      have hset : ∀ b : Bool, env.getD d .any = .bool b → Sim X g w (env.set d (.bool b)) a.tmps.toList sto ∧ yielded ops a.tmps j = some b := by
        intro b hb
        obtain ⟨v, hv, hr⟩ := hs.getB hb (by intro h; cases h)
        have hvb := rep_bool hr
        subst hvb
        exact ⟨hs.setSame (by simpa using hv) (.bool b) rfl, hy b hv⟩
      split at h
      · rename_i b hb
        split at h
        · obtain ⟨h1, h2⟩ := hset true hb
          split at h
          · rw [if_pos (by simp [Region.wanted, hg, h2])]; exact .inl (run _ h h1)
          · rw [if_neg (by simp [Region.wanted, hg, h2])]; exact skip _ h h1
        · obtain ⟨h1, h2⟩ := hset false hb
          split at h
          · rw [if_neg (by simp [Region.wanted, hg, h2])]; exact skip _ h h1
          · rw [if_pos (by simp [Region.wanted, hg, h2])]; exact .inl (run _ h h1)
      · rename_i hb
        obtain ⟨v, hv, hr⟩ := hs.getB hb (by intro h; cases h)
        have hy2 : yielded ops a.tmps j = none := by
          unfold dstOf at hdst
          cases hr with
          | tup hl _ => simp [yielded, hdst, hv]
        rw [if_neg (by simp [Region.wanted, hg, hy2])]
        exact skip _ h hs
      · cases h
    · cases h

theorem evOps_sound (hcx : CxOk P X cx) {hc : FuncId → List D → Sto → (D → Sto → Option R) → Option R} (hok : HcOk P X hc) {ops : Array Oper} {Q : Exit → Act → World → Prop} {k : St → Option R} {r : R} :
    ∀ (rest : List Oper) (env : List D) (sto : Sto) (a : Act) (w : World) (g : Gh), evOps cx hc ops rest ⟨env, sto⟩ k = some r → Sim X g w env a.tmps.toList sto → a.defers = [] →
      (∀ a' w' g' env' sto', k ⟨env', sto'⟩ = some r → Sim X g' w' env' a'.tmps.toList sto' → Ext g w g' w' → a'.defers = [] → Q .normal a' w') → wpList P ops Q rest a w
  | [], env, sto, a, w, g, h, hs, hd, hq => hq a w g env sto h hs (.refl _ _) hd
  | o :: rest, env, sto, a, w, g, h, hs, hd, hq => by
    unfold wpList
    exact gOp_sound hcx hok h hs hd (fun a' w' g' env' sto' hk hs' he hd' => evOps_sound hcx hok rest env' sto' a' w' g' hk hs' hd' (fun a2 w2 g2 env2 sto2 hk2 hs2 he2 hd2 => hq a2 w2 g2 env2 sto2 hk2 hs2 (he.trans he2) hd2))

/-- What code is to show behind it. -/
def CPost (X : Cfg) (g : Gh) (w : World) (k : Exit → St → Option R) (r : R) : Exit → Act → World → Prop :=
  fun e a' w' => ∃ env sto g', k e ⟨env, sto⟩ = some r ∧ Sim X g' w' env a'.tmps.toList sto ∧ Ext g w g' w' ∧ a'.defers = []

/-- The contract of a loop is what the rounds come to. -/
def LOk (cx : Cx) (hc : (R : Type) → FuncId → List D → Sto → (D → Sto → Option R) → Option R) (keep : List (Nat × LH)) (c : Code) : Prop :=
  ∀ lh lc, (firstRegion c).bind (look keep) = some lh → lh.con = some lc → ∀ (R : Type) (st : St) (n0 : Nat) (k : Exit → St → Option R) (r : R), lc R (norm lh n0 st) k = some r →
    ∃ n, loopN (fun st k => evCode cx (hc R) keep c st k) (norm lh n0) k n (norm lh n0 st) = some r

def Wk (d d' : D) : Prop := d' = d ∨ d' = .any ∨ ∃ s : Sh, d' = s.on d

theorem roD_rep {φ G} {w : World} (t : Ty) {d : D} {v : Value} (h : RepV X φ G w d v) : RepV X φ G w (roD t d) v := by
  unfold roD
  split
  · cases h; exact .slNil (by decide)
  · exact h.dup1
  · exact h.dup1
  · exact h

theorem not_keeps {md : Md} {n cap : Nat} (h : md.keeps n cap) (h1 : md ≠ .own) (h2 : md ≠ .oc) : False := by
  rcases h with e | ⟨e, _⟩
  · exact h1 e
  · exact h2 e

theorem roD_own {t : Ty} {d : D} {md : Md} {n cap : Nat} (hmd : md.keeps n cap) {ty : Ty} {l : List ty.den} (h : roD t d = .sl md ty l) : d = .sl md ty l := by
  unfold roD at h
  split at h
  · cases h; exact (not_keeps hmd (by decide) (by decide)).elim
  · cases h; exact (not_keeps hmd (by decide) (by decide)).elim
  · cases h; exact (not_keeps hmd (by decide) (by decide)).elim
  · exact h

theorem roL_length : ∀ (l : List (Option Ty)) (ds : List D), (roL l ds).length = ds.length
  | [], ds => by cases ds <;> rfl
  | some _ :: _, [] => rfl
  | none :: _, [] => rfl
  | some t :: r, d :: ds => by simp [roL, roL_length r ds]
  | none :: r, d :: ds => by simp [roL, roL_length r ds]

theorem roL_get : ∀ (l : List (Option Ty)) (ds : List D) (j : Nat) c', (roL l ds)[j]? = some c' → ∃ c, ds[j]? = some c ∧ (c' = c ∨ ∃ t, c' = roD t c)
  | [], ds, j, c', h => by cases ds <;> exact ⟨c', h, .inl rfl⟩
  | some _ :: _, [], j, c', h => by simp [roL] at h
  | none :: _, [], j, c', h => by simp [roL] at h
  | some t :: r, d :: ds, 0, c', h => by simp [roL] at h; exact ⟨d, rfl, .inr ⟨t, h.symm⟩⟩
  | none :: r, d :: ds, 0, c', h => by simp [roL] at h; exact ⟨d, rfl, .inl h.symm⟩
  | some t :: r, d :: ds, j + 1, c', h => by simp [roL] at h; simpa using roL_get r ds j c' h
  | none :: r, d :: ds, j + 1, c', h => by simp [roL] at h; simpa using roL_get r ds j c' h

theorem rep_aggs {φ G} {w : World} {ds : List D} {v : Value} (h : RepV X φ G w (.agg ds) v) : ∃ vs, v = .agg vs ∧ vs.size = ds.length ∧ ∀ (j : Nat) c, ds[j]? = some c → RepV X φ G w c (vs.getD j undef) := by
  cases h with
  | agg hl hr => exact ⟨_, rfl, hl, hr⟩

theorem sh_rep {φ G} {w : World} (s : Sh) {d : D} {v : Value} (h : RepV X φ G w d v) : RepV X φ G w (s.on d) v := by
  unfold Sh.on
  split
  · obtain ⟨vs, rfl, hl, hr⟩ := rep_aggs h
    refine .agg (by rw [roL_length]; exact hl) fun j c' hj => ?_
    obtain ⟨c, hc, e | ⟨t, e⟩⟩ := roL_get _ _ j c' hj
    · subst e; exact hr j c' hc
    · subst e; exact roD_rep t (hr j c hc)
  · exact h
  · exact h
  · cases h; exact .slNil (by decide)
  · exact h
  · cases h; exact .slNil (by decide)
  · exact h.dup1
  · exact h.dup1
  · exact h
  · cases h; exact .slNil (by decide)
  · exact rep_oc (.inl rfl) h
  · exact rep_oc (.inr rfl) h
  · exact h

theorem wk_rep {φ G} {w : World} {d d' : D} (hw : Wk d d') {v : Value} (h : RepV X φ G w d v) : RepV X φ G w d' v := by
  rcases hw with rfl | rfl | ⟨s, rfl⟩
  · exact h
  · exact .any v
  · exact sh_rep s h

theorem cap_full {φ G} {w : World} {t : Ty} {l : List t.den} {a : Option Addr} {len cap : Nat} (h : RepV X φ G w (.sl .cap t l) (.slice a len cap)) : cap = l.length := by
  rcases rep_slice_inv h with ⟨e0, _, _, e, _⟩ | ⟨e0, _, _, _, e, _⟩ | ⟨_, _, _, _, _, _, e, _⟩
  · subst e0; exact e
  · subst e0; exact e (.inl rfl)
  · exact e rfl

/-- What is owned in a weaker shape was owned before. -/
theorem wk_own {φ G} {w : World} {d d' : D} (hw : Wk d d') {v : Value} (h : RepV X φ G w d v) : d' = d ∨
    ((∀ md ty l a len cap, d' = .sl md ty l → v = .slice (some a) len cap → md.keeps l.length cap → d = .sl .own ty l) ∧
      (∀ cs', d' = .agg cs' → ∃ cs, d = .agg cs ∧ ∀ (j : Nat) (md : Md) (n cap : Nat) ty l, md.keeps n cap → cs'[j]? = some (.sl md ty l) → cs[j]? = some (.sl md ty l)) ∧ (∀ cs, d' ≠ .tup cs)) := by
  have low : ∀ {t : Ty} {l : List t.den} {md ty l' a len cap}, D.sl .ro t l = .sl md ty l' → v = .slice (some a) len cap → md.keeps l'.length cap → d = .sl .own ty l' := fun h _ hk => by
    cases h; exact (not_keeps hk (by decide) (by decide)).elim
  rcases hw with rfl | rfl | ⟨s, rfl⟩
  · exact .inl rfl
  · exact .inr ⟨(fun _ _ _ _ _ _ h => by cases h), (fun _ h => by cases h), (fun _ h => by cases h)⟩
  · unfold Sh.on
    split
    · refine .inr ⟨(fun _ _ _ _ _ _ h => by cases h), (fun cs' h => ?_), (fun _ h => by cases h)⟩
      cases h
      refine ⟨_, rfl, fun j md n cap ty l hk hj => ?_⟩
      obtain ⟨c, hc, e | ⟨t, e⟩⟩ := roL_get _ _ j _ hj
      · subst e; exact hc
      · rw [hc, roD_own hk e.symm]
    · exact .inl rfl
    · exact .inl rfl
    · refine .inr ⟨fun _ _ _ _ _ _ _ hv => ?_, (fun _ h => by cases h), (fun _ h => by cases h)⟩
      cases h; cases hv
    · exact .inl rfl
    · exact .inr ⟨fun _ _ _ _ _ _ e hv hk => low e hv hk, (fun _ h => by cases h), (fun _ h => by cases h)⟩
    · exact .inr ⟨fun _ _ _ _ _ _ e hv hk => low e hv hk, (fun _ h => by cases h), (fun _ h => by cases h)⟩
    · exact .inr ⟨fun _ _ _ _ _ _ e hv hk => low e hv hk, (fun _ h => by cases h), (fun _ h => by cases h)⟩
    · exact .inl rfl
    · refine .inr ⟨fun _ _ _ _ _ _ _ hv => ?_, (fun _ h => by cases h), (fun _ h => by cases h)⟩
      cases h; cases hv
    · refine .inr ⟨fun _ _ _ _ _ _ e _ _ => ?_, (fun _ h => by cases h), (fun _ h => by cases h)⟩
      cases e; rfl
    · refine .inr ⟨fun _ _ _ _ _ _ e hv hk => ?_, (fun _ h => by cases h), (fun _ h => by cases h)⟩
      cases e; subst hv
      have := cap_full h
      rcases hk with e | ⟨_, hlt⟩
      · cases e
      · omega
    · exact .inl rfl

def Wk1 (d d' : D) : Prop := d' = d ∨ ∃ s : Sh, d' = s.on d

theorem Wk1.wk {d d' : D} (h : Wk1 d d') : Wk d d' := h.elim .inl (fun h => .inr (.inr h))

theorem wk_arr {t : Ty} {l : List t.den} {d' : D} (h : Wk1 (.arr t l) d') : d' = .arr t l := by
  rcases h with h | ⟨s, h⟩
  · exact h
  · rw [h]; cases s <;> rfl

/-- A row that says less. (An array's row may be let go.) -/
theorem SimR.wk {g : Gh} {w : World} {i c : Nat} {cs cs' : List D} (h : SimR X g w i c cs) (hlen : cs'.length = cs.length)
    (hcs : ∀ (j : Nat) d', cs'[j]? = some d' → ∃ d, cs[j]? = some d ∧ Wk1 d d') : SimR X g w i c cs' := by
  have hcs1 := hcs
  replace hcs : ∀ (j : Nat) d', cs'[j]? = some d' → ∃ d, cs[j]? = some d ∧ Wk d d' := fun j d' hj => let ⟨d, h1, h2⟩ := hcs1 j d' hj; ⟨d, h1, h2.wk⟩
  cases ha : arrOf cs with
  | some p => exact h.conv (by
      have e := arrOf_some ha
      subst e
      match cs', hlen with
      | [d'], _ =>
        obtain ⟨d, h1, h2⟩ := hcs1 0 d' rfl
        simp at h1; subst h1
        rw [wk_arr h2]) (by intro e; subst e; cases ha) (fun b k => ⟨k, id, fun _ => ⟨rfl, rfl⟩⟩) (fun _ _ _ h => h) (fun j d' hj => by
      obtain ⟨d, h1, h2⟩ := hcs j d' hj
      exact ⟨d, h1, fun v hr => wk_rep h2 hr⟩)
  | none =>
    by_cases hn : cs = []
    · subst hn
      have : cs' = [] := List.length_eq_zero_iff.1 hlen
      subst this
      unfold SimR arrOf; exact .inl rfl
    · obtain ⟨k, g0, cell⟩ := h.obj ha hn
      have hcell' : ∀ (j : Nat) c', cs'[j]? = some c' → ∃ u, w.cell? ⟨c, j, none⟩ = some u ∧ w.frozen? ⟨c, j, none⟩ = false ∧ RepV X g.φ g.G w c' u := by
        intro j d' hj
        obtain ⟨d, hd, hw⟩ := hcs j d' hj
        obtain ⟨v, hv, hf, hr⟩ := cell j d hd
        exact ⟨v, hv, hf, wk_rep hw hr⟩
      exact SimR.ofO ⟨k, g0, hcell'⟩ (arrOf_rep (f := fun j => (w.cell? ⟨c, j, none⟩).getD undef) (fun j c hj => by obtain ⟨u, hu, _, hr⟩ := hcell' j c hj; rw [hu]; exact hr))

/-- Slots and objects in weaker shapes. -/
theorem Sim.weaken {g : Gh} {w : World} {env env' : List D} {vals : List Value} {sto sto' : Sto} (h : Sim X g w env vals sto) (hl : env'.length = env.length)
    (he : ∀ (t : Nat) d', env'[t]? = some d' → ∃ d, env[t]? = some d ∧ Wk d d') (hsl : sto'.length = sto.length)
    (hso : ∀ (i : Nat) cs', sto'[i]? = some cs' → ∃ cs, sto[i]? = some cs ∧ cs'.length = cs.length ∧ ∀ (j : Nat) d', cs'[j]? = some d' → ∃ d, cs[j]? = some d ∧ Wk1 d d') : Sim X g w env' vals sto' := by
  have hobj : ∀ (i : Nat) b cs', g.φ[i]? = some b → sto'[i]? = some cs' → SimR X g w i b cs' := by
    intro i b cs' hb hi
    obtain ⟨cs, hi0, hlen, hcs⟩ := hso i cs' hi
    exact (h.obj i b cs hb hi0).wk hlen hcs
  refine ⟨hl.trans h.len, fun t d' v hd hv => ?_, by rw [hsl]; exact h.slen, hobj, ?_, h.kdom, h.gdom⟩
  · obtain ⟨d, hd0, hw⟩ := he t d' hd
    exact wk_rep hw (h.rep t d v hd0 hv)
  · intro ℓ md ty l a len cap ho hmd
    suffices ho' : ∃ md' : Md, md'.keeps l.length cap ∧ Occ g.φ w env vals sto ℓ (.sl md' ty l) (.slice (some a) len cap) by
      obtain ⟨md', hk, ho'⟩ := ho'
      exact h.own _ md' _ _ _ _ _ ho' hk
    generalize hx : D.sl md ty l = x at ho
    generalize hy : Value.slice (some a) len cap = y at ho
    cases ho with
    | leaf hd hv =>
      obtain ⟨d, hd0, hw⟩ := he _ _ hd
      rcases wk_own hw (h.rep _ d _ hd0 hv) with e | ⟨h1, _⟩
      · subst hx; subst hy; exact ⟨md, hmd, .leaf (by rw [hd0, e]) hv⟩
      · have := h1 _ _ _ _ _ _ hx.symm hy.symm hmd
        subst hy; exact ⟨.own, .inl rfl, .leaf (by rw [hd0, this]) hv⟩
    | agg hd hv hj he' =>
      obtain ⟨d, hd0, hw⟩ := he _ _ hd
      rcases wk_own hw (h.rep _ d _ hd0 hv) with e | ⟨_, h2, _⟩
      · subst hx; subst hy; rw [← e] at hd0; exact ⟨md, hmd, .agg hd0 hv hj he'⟩
      · obtain ⟨cs, hcs, hown⟩ := h2 _ rfl
        subst hcs; subst hx; subst hy
        exact ⟨md, hmd, .agg hd0 hv (hown _ md _ _ _ _ hmd hj) he'⟩
    | tup hd hv hj he' =>
      obtain ⟨d, hd0, hw⟩ := he _ _ hd
      rcases wk_own hw (h.rep _ d _ hd0 hv) with e | ⟨_, _, h2⟩
      · subst hx; subst hy; rw [← e] at hd0; exact ⟨md, hmd, .tup hd0 hv hj he'⟩
      · exact absurd rfl (h2 _)
    | cell hi hb hj hv =>
      obtain ⟨cs, hi0, _, hcs⟩ := hso _ _ hi
      obtain ⟨d, hd0, hw⟩ := hcs _ _ hj
      have hna : ∀ t l, d ≠ .arr t l := by
        intro t l e; subst e; subst hx
        cases wk_arr hw
      replace hw := hw.wk
      obtain ⟨v, hv0, _, hr⟩ := ((h.obj _ _ cs hb hi0).get hd0 hna).cell _ d hd0
      rw [hv0] at hv; cases hv
      rcases wk_own hw hr with e | ⟨h1, _⟩
      · subst hx; subst hy; exact ⟨md, hmd, .cell hi0 hb (by rw [hd0, e]) hv0⟩
      · have := h1 _ _ _ _ _ _ hx.symm hy.symm hmd
        subst hy; exact ⟨.own, .inl rfl, .cell hi0 hb (by rw [hd0, this]) hv0⟩

end
end Go.Ev

/-! Operations that may change places: what each reads, lays and leaves. No world in sight. -/
namespace Go.Ev
section
variable {R : Type} {cx : Cx}

def Chg (S : List Nat) (env env' : List D) : Prop := env'.length = env.length ∧ ∀ t, t ∉ S → env'[t]? = env[t]?

theorem Chg.refl (S : List Nat) (env : List D) : Chg S env env := ⟨rfl, fun _ _ => rfl⟩
theorem Chg.trans {S : List Nat} {a b c : List D} (h : Chg S a b) (k : Chg S b c) : Chg S a c := ⟨k.1.trans h.1, fun t ht => (k.2 t ht).trans (h.2 t ht)⟩
theorem Chg.mono {S S' : List Nat} {a b : List D} (h : Chg S a b) (hs : ∀ t, t ∈ S → t ∈ S') : Chg S' a b := ⟨h.1, fun t ht => h.2 t (fun h' => ht (hs t h'))⟩
theorem Chg.set {S : List Nat} {t : Nat} (ht : t ∈ S) (env : List D) (d : D) : Chg S env (env.set t d) :=
  ⟨by simp, fun s hs => List.getElem?_set_ne (fun e => hs (by rw [← e]; exact ht))⟩

theorem rd_set {env : List D} {t : Nat} {d : D} {x : Operand} (h : t ∉ tmpOf x) : rd (env.set t d) x = rd env x := by
  cases x with
  | tmp s => have hne : t ≠ s := fun e => h (by simp [tmpOf, e]); simp [rd, List.getD, List.getElem?_set_ne hne]
  | _ => rfl

theorem left_set {env : List D} {t : Nat} {d : D} {x : Operand} (h : t ∉ tmpOf x) : left (env.set t d) x = (left env x).set t d := by
  cases x with
  | tmp s =>
    have hne : t ≠ s := fun e => h (by simp [tmpOf, e])
    have := rd_set (env := env) (d := d) h
    simp only [rd] at this
    simp only [left, this]
    exact List.set_comm _ _ hne
  | _ => rfl

theorem put_set {env : List D} {t : Nat} {d v : D} {o : Option Tmp} (h : t ∉ dstT o) : put (env.set t d) o v = (put env o v).set t d := by
  cases o with
  | none => rfl
  | some s => have hne : t ≠ s := fun e => h (by simp [dstT, e]); exact List.set_comm _ _ hne

theorem Chg.left {S : List Nat} {x : Operand} (h : ∀ t, t ∈ tmpOf x → t ∈ S) (env : List D) : Chg S env (left env x) := by
  cases x with
  | tmp s => exact .set (h s (by simp [tmpOf])) _ _
  | _ => exact .refl _ _

theorem Chg.put {S : List Nat} {o : Option Tmp} (h : ∀ t, t ∈ dstT o → t ∈ S) (env : List D) (v : D) : Chg S env (put env o v) := by
  cases o with
  | none => exact .refl _ _
  | some s => exact .set (h s (by simp [dstT])) _ _

/-- What comes of it is one state, or none. -/
def NF (S : List Nat) (calm : Bool) (st : St) (X : (St → Option R) → Option R) : Prop :=
  ∃ s : Option St, (∀ k, X k = s.bind k) ∧ ∀ st', s = some st' → Chg S st.env st'.env ∧ (calm = true → st'.sto = st.sto)

structure OpFoot (cx : Cx) (hc : FuncId → List D → Sto → (D → Sto → Option R) → Option R) (all : List Oper) (o : Oper) (f : Foot) : Prop where
  nf : ∀ st, NF (dstT o.dst ++ f.wr) f.calm st (evOp cx hc all o st)
  loc : ∀ (t : Nat) d env sto k, t ∉ f.rd → t ∉ dstT o.dst → t ∉ f.wr → evOp cx hc all o ⟨env.set t d, sto⟩ k = evOp cx hc all o ⟨env, sto⟩ (fun st' => k ⟨st'.env.set t d, st'.sto⟩)
  sf : f.apart = true → ∀ env sto sto' k, evOp cx hc all o ⟨env, sto'⟩ k = evOp cx hc all o ⟨env, sto⟩ (fun st' => k ⟨st'.env, sto'⟩)

def Bnd (V : (D → Option R) → Option R) : Prop := ∃ s : Option D, ∀ k, V k = s.bind k

theorem Bnd.none : Bnd (R := R) fun _ => none := ⟨.none, fun _ => rfl⟩
theorem Bnd.pure (d : D) : Bnd (R := R) fun k => k d := ⟨some d, fun _ => rfl⟩

variable {hc : FuncId → List D → Sto → (D → Sto → Option R) → Option R} {all : List Oper} {o : Oper} {f : Foot}

/-- The value comes of the slots that are read; it is laid into its slot; beside that, a slot may be left. -/
theorem foot_val (V : List D → (D → Option R) → Option R) (L : List D → List D) (hev : ∀ env sto k, evOp cx hc all o ⟨env, sto⟩ k = V env (fun d => k ⟨put (L env) o.dst d, sto⟩)) (hb : ∀ env, Bnd (V env))
    (hl : ∀ env (t : Nat) d, t ∉ f.rd → V (env.set t d) = V env) (hL : ∀ env, Chg f.wr env (L env)) (hLs : ∀ env (t : Nat) d, t ∉ f.rd → t ∉ f.wr → L (env.set t d) = (L env).set t d) : OpFoot cx hc all o f := by
  refine ⟨fun st => ?_, fun t d env sto k h1 h2 h3 => ?_, fun _ env sto sto' k => ?_⟩
  · obtain ⟨s, hs⟩ := hb st.env
    refine ⟨s.map fun d => ⟨put (L st.env) o.dst d, st.sto⟩, fun k => ?_, fun st' h => ?_⟩
    · rw [show st = ⟨st.env, st.sto⟩ from rfl, hev, hs]; cases s <;> rfl
    · cases s with
      | none => cases h
      | some d =>
        cases h
        exact ⟨((hL st.env).mono (fun t h => List.mem_append_right _ h)).trans (.put (fun t h => List.mem_append_left _ h) _ _), fun _ => rfl⟩
  · rw [hev, hev, hl env t d h1, hLs env t d h1 h3]
    simp only [put_set h2]
  · rw [hev, hev]

theorem foot_plain (V : List D → (D → Option R) → Option R) (hev : ∀ env sto k, evOp cx hc all o ⟨env, sto⟩ k = V env (fun d => k ⟨put env o.dst d, sto⟩)) (hb : ∀ env, Bnd (V env))
    (hl : ∀ env (t : Nat) d, t ∉ f.rd → V (env.set t d) = V env) : OpFoot cx hc all o f :=
  foot_val V id hev hb hl (fun _ => .refl _ _) (fun _ _ _ _ _ => rfl)

theorem foot_left (V : List D → (D → Option R) → Option R) (x : Operand) (hx : ∀ t, t ∈ tmpOf x → t ∈ f.wr) (hev : ∀ env sto k, evOp cx hc all o ⟨env, sto⟩ k = V env (fun d => k ⟨put (left env x) o.dst d, sto⟩)) (hb : ∀ env, Bnd (V env))
    (hl : ∀ env (t : Nat) d, t ∉ f.rd → V (env.set t d) = V env) : OpFoot cx hc all o f :=
  foot_val V (left · x) hev hb hl (fun env => .left hx env) (fun env t d _ h => left_set (fun h' => h (hx t h')))

theorem binK_bnd (op : BinOp) (t : TypeId) (lit : Bool) (x y : D) : Bnd (R := R) (binK cx op t lit x y) := by
  have ifk : ∀ (kx ky : IntKind) (d : D), Bnd (R := R) fun k => if kx = ky then k d else none := by
    intro kx ky d
    by_cases h : kx = ky
    · exact ⟨some d, fun k => (if_pos h).trans rfl⟩
    · exact ⟨none, fun k => (if_neg h).trans rfl⟩
  have ifd : ∀ (b : Bool) (d : D), Bnd (R := R) fun k => match b with | true => k d | false => none := by
    intro b d; cases b
    · exact ⟨none, fun _ => rfl⟩
    · exact ⟨some d, fun _ => rfl⟩
  have ifz : ∀ (kx ky : IntKind) (b : Bool) (d : D), Bnd (R := R) fun k => if kx = ky then (match b with | true => none | false => k d) else none := by
    intro kx ky b d
    by_cases h : kx = ky
    · cases b
      · exact ⟨some d, fun k => (if_pos h).trans rfl⟩
      · exact ⟨none, fun k => (if_pos h).trans rfl⟩
    · exact ⟨none, fun k => (if_neg h).trans rfl⟩
  have eqb : ∀ (e : Option Bool) (f : Bool → D), Bnd (R := R) fun k => match e with | some b => k (f b) | none => none := by
    intro e f; cases e
    · exact ⟨none, fun _ => rfl⟩
    · exact ⟨some _, fun _ => rfl⟩
  cases op
  case eql => exact eqb (eqD cx t lit x y) (fun b => .bool b)
  case neq => exact eqb (eqD cx t lit x y) (fun b => .bool (!b))
  all_goals
    cases x <;> first
      | exact .none
      | (cases y <;> first
          | exact .none
          | exact .pure _
          | exact ifk _ _ _
          | exact ifd _ _
          | exact ifz _ _ _ _)

theorem unK_bnd (op : UnOp) (x : D) : Bnd (R := R) (unK op x) := by
  cases op <;> cases x <;> first | exact .none | exact .pure _

theorem Bnd.of {V : (D → Option R) → Option R} (s : Option D) (h : ∀ k, V k = s.bind k) : Bnd V := ⟨s, h⟩

theorem convK_bnd (src dst : TypeId) (x : D) : Bnd (R := R) (convK cx src dst x) := by
  refine .of (convK cx src dst x some) (fun k => ?_)
  unfold convK
  split <;> (try rfl)
  all_goals (split <;> rfl)

theorem boundK_bnd (x : D) (hi : Nat) {V : Nat → (D → Option R) → Option R} (hV : ∀ n, Bnd (V n)) : Bnd (R := R) fun k => boundK x hi fun n => V n k := by
  cases x <;> first
    | exact .none
    | skip
  rename_i kd n
  show Bnd fun k => match decide (0 ≤ n ∧ n ≤ (hi : Int)) with | true => V n.toNat k | false => none
  cases decide (0 ≤ n ∧ n ≤ (hi : Int))
  · exact .none
  · exact hV _

theorem optK_bnd (x : Option D) (d hi : Nat) {V : Nat → (D → Option R) → Option R} (hV : ∀ n, Bnd (V n)) : Bnd (R := R) fun k => optK x d hi fun n => V n k := by
  cases x with
  | none => exact hV d
  | some x => exact boundK_bnd x hi hV

theorem cut_bnd (lo hi : Option D) (d : Nat) (F : Nat → Nat → D) : Bnd (R := R) fun k => optK hi d d fun h => optK lo 0 h fun l => k (F h l) :=
  optK_bnd (V := fun h k => optK lo 0 h fun l => k (F h l)) hi d d fun h => optK_bnd (V := fun l k => k (F h l)) lo 0 h fun l => .pure _

theorem sliceK_bnd (x : D) (lo hi mx : Option D) : Bnd (R := R) (sliceK x lo hi mx) := by
  cases x
  case str s =>
    cases mx
    · exact cut_bnd lo hi s.length fun h l => .str ((s.take h).drop l)
    · exact .none
  case nils =>
    cases mx
    · exact cut_bnd lo hi 0 fun _ _ => .nils
    · exact .none
  case sl m t s =>
    cases mx with
    | none => exact cut_bnd lo hi s.length fun h l => .sl .ro t ((s.take h).drop l)
    | some mx =>
      cases mx
      case int k1 m1 =>
        cases hi with
        | none => exact .none
        | some hi =>
          cases hi
          case int k2 h2 =>
            show Bnd fun k => match decide (h2 = m1) with
              | true => boundK (.int .i64 h2) s.length fun h => optK lo 0 h fun l => k (.sl .cap t ((s.take h).drop l))
              | false => none
            cases decide (h2 = m1)
            · exact .none
            · exact boundK_bnd (V := fun h k => optK lo 0 h fun l => k (.sl .cap t ((s.take h).drop l))) _ _ fun h => optK_bnd (V := fun l k => k (.sl .cap t ((s.take h).drop l))) lo 0 h fun l => .pure _
          all_goals exact .none
      all_goals exact .none
  all_goals exact .none

theorem appendK_bnd (st : TypeId) (x y : D) : Bnd (R := R) (appendK cx st x y) := by
  refine .of (appendK cx st x y some) (fun k => ?_)
  unfold appendK
  split
  · split
    · split
      · split
        · split <;> rfl
        · split
          · split <;> rfl
          · rfl
        · split
          · split <;> rfl
          · rfl
        · split
          · split <;> rfl
          · rfl
        · rfl
      · rfl
    · rfl
  · rfl

end
end Go.Ev

namespace Go.Ev
section
variable {R : Type} {cx : Cx}
variable {hc : FuncId → List D → Sto → (D → Sto → Option R) → Option R} {all : List Oper} {o : Oper} {f : Foot}

theorem out_cons {t : Nat} {x : Operand} {r : List Operand} (h : t ∉ tmpsOf (x :: r)) : t ∉ tmpOf x ∧ t ∉ tmpsOf r := by
  simp only [tmpsOf, List.mem_append, not_or] at h; exact h

theorem argsOf_set {want : List Nat} {t : Nat} {d : D} : ∀ (args : List Operand) (i : Nat) (env : List D), t ∉ tmpsOf args → argsOf (env.set t d) want i args = ((argsOf env want i args).1, (argsOf env want i args).2.set t d)
  | [], i, env, _ => rfl
  | x :: r, i, env, h => by
    obtain ⟨h1, h2⟩ := out_cons h
    unfold argsOf
    simp only [rd_set h1, left_set h1]
    cases want.any (Nat.beq i)
    · simp only [argsOf_set r (i + 1) env h2]
    · simp only [argsOf_set r (i + 1) (left env x) h2]

theorem argsOf_chg {want : List Nat} : ∀ (args : List Operand) (i : Nat) (env : List D), Chg (tmpsOf args) env (argsOf env want i args).2
  | [], i, env => .refl _ _
  | x :: r, i, env => by
    unfold argsOf
    simp only
    cases want.any (Nat.beq i)
    · exact (argsOf_chg r (i + 1) env).mono (fun t h => by simp [tmpsOf, h])
    · exact (Chg.left (fun t h => by simp [tmpsOf, h]) env).trans ((argsOf_chg r (i + 1) (left env x)).mono (fun t h => by simp [tmpsOf, h]))

theorem fillS_set {fs : List FI} {t : Nat} {d : D} : ∀ (parts : List (Nat × Operand)) (env cs : List D), t ∉ tmpsOf (parts.map (·.2)) → fillS fs (env.set t d) parts cs = (fillS fs env parts cs).map fun p => (p.1, p.2.set t d)
  | [], env, cs, _ => rfl
  | (i, x) :: r, env, cs, h => by
    obtain ⟨h1, h2⟩ := out_cons (x := x) (r := r.map (·.2)) h
    unfold fillS
    rw [rd_set h1, left_set h1]
    cases fs[i]? with
    | none => rfl
    | some fi =>
      simp only
      cases fits (rd env x).cells fi.size
      · rfl
      · cases Nat.ble (fi.off + (rd env x).cells.length) cs.length
        · rfl
        · exact fillS_set r _ _ h2

theorem fillS_chg {fs : List FI} : ∀ (parts : List (Nat × Operand)) (env cs : List D) (p), fillS fs env parts cs = some p → Chg (tmpsOf (parts.map (·.2))) env p.2
  | [], env, cs, p, h => by cases h; exact .refl _ _
  | (i, x) :: r, env, cs, p, h => by
    unfold fillS at h
    split at h
    · split at h
      · exact (Chg.left (fun t h => by simp [tmpsOf, h]) env).trans ((fillS_chg r _ _ p h).mono (fun t h => by simp [tmpsOf] at h ⊢; exact .inr h))
      · cases h
    · cases h

theorem fillL_set {sz : Nat} {t : Nat} {d : D} : ∀ (parts : List (Nat × Operand)) (env : List D) (cs : List (List D)), t ∉ tmpsOf (parts.map (·.2)) → fillL sz (env.set t d) parts cs = fillL sz env parts cs
  | [], env, cs, _ => rfl
  | (i, x) :: r, env, cs, h => by
    obtain ⟨h1, h2⟩ := out_cons (x := x) (r := r.map (·.2)) h
    unfold fillL
    simp only [rd_set h1, fillL_set r env _ h2]

/-- Whatever an operation does, by what it yields. -/
theorem foot_gen (W : List D → Sto → Option (D × List D × Sto)) (hev : ∀ env sto k, evOp cx hc all o ⟨env, sto⟩ k = (W env sto).bind fun p => k ⟨put p.2.1 o.dst p.1, p.2.2⟩)
    (hW : ∀ env sto (t : Nat) d, t ∉ f.rd → t ∉ f.wr → W (env.set t d) sto = (W env sto).map fun p => (p.1, p.2.1.set t d, p.2.2))
    (hch : ∀ env sto p, W env sto = some p → Chg f.wr env p.2.1 ∧ (f.calm = true → p.2.2 = sto)) (ha : f.apart = false) : OpFoot cx hc all o f := by
  refine ⟨fun st => ?_, fun t d env sto k h1 h2 h3 => ?_, fun h => by rw [ha] at h; cases h⟩
  · refine ⟨(W st.env st.sto).map fun p => ⟨put p.2.1 o.dst p.1, p.2.2⟩, fun k => ?_, fun st' h => ?_⟩
    · rw [show st = ⟨st.env, st.sto⟩ from rfl, hev]; cases W st.env st.sto <;> rfl
    · cases hw : W st.env st.sto with
      | none => rw [hw] at h; cases h
      | some p =>
        rw [hw] at h; cases h
        obtain ⟨h1, h2⟩ := hch _ _ p hw
        exact ⟨(h1.mono (fun t h => List.mem_append_right _ h)).trans (.put (fun t h => List.mem_append_left _ h) _ _), h2⟩
  · rw [hev, hev, hW env sto t d h1 h3]
    cases W env sto with
    | none => rfl
    | some p => simp only [Option.map_some, Option.bind_some, put_set h2]

theorem foot_move {x : Operand} (ho : o.op = .move x) (h : footOf0 cx all o = some f) : OpFoot cx hc all o f := by
  unfold footOf0 at h
  rw [ho] at h
  simp only at h
  cases hs : stealsTy cx o.type all o.dst
  · rw [hs] at h; cases h
    refine foot_plain (fun env k => k (rd env x).dup) (fun env sto k => ?_) (fun env => .pure _) (fun env t d h => ?_)
    · unfold evOp; simp only [ho, hs]
    · simp only [rd_set h]
  · rw [hs] at h; cases h
    refine foot_left (fun env k => k (rd env x)) x (fun _ h => h) (fun env sto k => ?_) (fun env => .pure _) (fun env t d h => ?_)
    · unfold evOp; simp only [ho, hs]
    · simp only [rd_set h]

theorem foot_assign {x : Operand} (ho : o.op = .assign x) (h : footOf0 cx all o = some f) : OpFoot cx hc all o f := by
  unfold footOf0 at h
  rw [ho] at h
  cases h
  refine foot_left (fun env k => k (rd env x)) x (fun _ h => h) (fun env sto k => ?_) (fun env => .pure _) (fun env t d h => ?_)
  · unfold evOp; simp only [ho] <;> rfl
  · simp only [rd_set h]

theorem out_app {t : Nat} {a b : List Nat} (h : t ∉ a ++ b) : t ∉ a ∧ t ∉ b := by
  simpa [not_or] using h

theorem foot_pick {c x y : Operand} (ho : o.op = .pick c x y) (h : footOf0 cx all o = some f) : OpFoot cx hc all o f := by
  unfold footOf0 at h
  rw [ho] at h
  cases h
  refine foot_plain (fun env k => match rd env c with
    | .bool t => match t with
      | true => k (rd env x).dup
      | false => k (rd env y).dup
    | _ => none) (fun env sto k => ?_) (fun env => ?_) (fun env t d h => ?_)
  · unfold evOp; simp only [ho] <;> rfl
  · generalize rd env c = z
    cases z <;> first
      | exact .none
      | skip
    rename_i b
    cases b <;> exact .pure _
  · obtain ⟨h12, h3⟩ := out_app h
    obtain ⟨h1, h2⟩ := out_app h12
    simp only [rd_set h1, rd_set h2, rd_set h3]

theorem foot_nilCheck {x : Operand} (ho : o.op = .nilCheck x) (h : footOf0 cx all o = some f) : OpFoot cx hc all o f := by
  unfold footOf0 at h
  rw [ho] at h
  cases h
  refine foot_plain (fun env k => match rd env x with
    | .ptr i off => k (.ptr i off)
    | .box cs => k (.box cs)
    | .fn f cs => k (.fn f cs)
    | _ => none) (fun env sto k => ?_) (fun env => ?_) (fun env t d h => ?_)
  · unfold evOp; simp only [ho] <;> rfl
  · generalize rd env x = z
    cases z <;> first
      | exact .none
      | exact .pure _
  · simp only [rd_set h]

theorem foot_binOp {op t x y tr} (ho : o.op = .binOp op t x y tr) (h : footOf0 cx all o = some f) : OpFoot cx hc all o f := by
  unfold footOf0 at h
  rw [ho] at h
  cases h
  refine foot_plain (fun env => binK cx op t (isConstO x || isConstO y) (rd env x) (rd env y)) (fun env sto k => ?_) (fun env => binK_bnd _ _ _ _ _) (fun env t d h => ?_)
  · unfold evOp; simp only [ho] <;> rfl
  · obtain ⟨h1, h2⟩ := out_app h
    simp only [rd_set h1, rd_set h2]

theorem foot_unOp {op t x} (ho : o.op = .unOp op t x) (h : footOf0 cx all o = some f) : OpFoot cx hc all o f := by
  unfold footOf0 at h
  rw [ho] at h
  cases h
  refine foot_plain (fun env => unK op (rd env x)) (fun env sto k => ?_) (fun env => unK_bnd _ _) (fun env t d h => ?_)
  · unfold evOp; simp only [ho] <;> rfl
  · simp only [rd_set h]

theorem optMap_set {env : List D} {t : Nat} {d : D} {x : Option Operand} (h : t ∉ optOf x) : x.map (rd (env.set t d)) = x.map (rd env) := by
  cases x with
  | none => rfl
  | some x => simp only [Option.map_some, rd_set (x := x) h]

theorem foot_slice {ty x lo hi mx} (ho : o.op = .slice ty x lo hi mx) (h : footOf0 cx all o = some f) : OpFoot cx hc all o f := by
  unfold footOf0 at h
  rw [ho] at h
  cases h
  refine foot_plain (fun env k => match tyOk cx ty (rd env x) with
    | true => sliceK (rd env x) (lo.map (rd env)) (hi.map (rd env)) (mx.map (rd env)) k
    | false => none) (fun env sto k => ?_) (fun env => ?_) (fun env t d h => ?_)
  · unfold evOp; simp only [ho] <;> rfl
  · cases tyOk cx ty (rd env x)
    · exact .none
    · exact sliceK_bnd _ _ _ _
  · obtain ⟨h123, h4⟩ := out_app h
    obtain ⟨h12, h3⟩ := out_app h123
    obtain ⟨h1, h2⟩ := out_app h12
    simp only [rd_set h1, optMap_set h2, optMap_set h3, optMap_set h4]

theorem foot_fieldAddr {ty x fi} (ho : o.op = .fieldAddr ty x fi) (h : footOf0 cx all o = some f) : OpFoot cx hc all o f := by
  unfold footOf0 at h
  rw [ho] at h
  cases h
  refine foot_plain (fun env k => match look cx.tab ty with
    | some { d := .struct fs, .. } => match fs[fi]? with
      | some fi => match Nat.beq fi.size 0, rd env x with
        | false, .ptr i off => k (.ptr i (off + fi.off))
        | false, .box cs => match Nat.ble fi.off cs.length with
          | true => k (.box (cs.drop fi.off))
          | false => none
        | _, _ => none
      | none => none
    | _ => none) (fun env sto k => ?_) (fun env => ?_) (fun env t d h => ?_)
  · unfold evOp; simp only [ho] <;> rfl
  · refine .of (Option.bind (match look cx.tab ty with
      | some { d := .struct fs, .. } => fs[fi]?
      | _ => none) fun fi => match Nat.beq fi.size 0, rd env x with
        | false, .ptr i off => some (.ptr i (off + fi.off))
        | false, .box cs => match Nat.ble fi.off cs.length with
          | true => some (.box (cs.drop fi.off))
          | false => none
        | _, _ => none) (fun k => ?_)
    cases look cx.tab ty with
    | none => rfl
    | some e =>
      obtain ⟨ed, _, _, _, _, _⟩ := e
      cases ed <;> first
        | rfl
        | skip
      rename_i fs
      simp only
      cases fs[fi]? with
      | none => rfl
      | some fi =>
        simp only [Option.bind_some]
        cases Nat.beq fi.size 0
        · generalize rd env x = z
          cases z <;> first
            | rfl
            | skip
          rename_i cs
          simp only
          cases Nat.ble fi.off cs.length <;> rfl
        · rfl
  · simp only [rd_set h]

theorem foot_field {ty x fi} (ho : o.op = .field ty x fi) (h : footOf0 cx all o = some f) : OpFoot cx hc all o f := by
  unfold footOf0 at h
  rw [ho] at h
  cases h
  refine foot_plain (fun env k => match look cx.tab ty with
    | some { d := .struct fs, .. } => match fs[fi]?, rd env x with
      | some fi, .agg cs => match Nat.ble (fi.off + fi.size) cs.length with
        | true => k (ofCells fi.agg (((cs.drop fi.off).take fi.size).map D.dup1))
        | false => none
      | _, _ => none
    | _ => none) (fun env sto k => ?_) (fun env => ?_) (fun env t d h => ?_)
  · unfold evOp; simp only [ho] <;> rfl
  · cases look cx.tab ty with
    | none => exact .none
    | some e =>
      obtain ⟨ed, _, _, _, _, _⟩ := e
      cases ed <;> first
        | exact .none
        | skip
      rename_i fs
      simp only
      cases fs[fi]? with
      | none => exact .none
      | some fi =>
        generalize rd env x = z
        cases z <;> first
          | exact .none
          | skip
        rename_i cs
        simp only
        cases Nat.ble (fi.off + fi.size) cs.length
        · exact .none
        · exact .pure _
  · simp only [rd_set h]

end
end Go.Ev

namespace Go.Ev
section
variable {R : Type} {cx : Cx}
variable {hc : FuncId → List D → Sto → (D → Sto → Option R) → Option R} {all : List Oper} {o : Oper} {f : Foot}

theorem bnd_bind {α : Type} (m : Option α) {V : α → (D → Option R) → Option R} (h : ∀ a, Bnd (V a)) : Bnd (R := R) fun k => m.bind fun a => V a k := by
  cases m with
  | none => exact .none
  | some a => exact h a

theorem foot_indexAddr {ty x ix} (ho : o.op = .indexAddr ty x ix) (h : footOf0 cx all o = some f) : OpFoot cx hc all o f := by
  unfold footOf0 at h
  rw [ho] at h
  cases h
  refine foot_plain (fun env k => match look cx.tab ty, rd env x, rd env ix with
    | some { d := .slice _, .. }, .sl m ty' l, .int _ n => match tyOk cx ty (.sl m ty' l) with
      | true => (nth l n).bind fun e => k (.box (cells ty' e))
      | false => none
    | some { d := .array len e, .. }, .ptr i off, .int _ n => match look cx.tab e with
      | some te => match decide (0 ≤ n ∧ n < (len : Int)) with
        | true => k (.ptr i (off + n.toNat * te.size))
        | false => none
      | none => none
    | _, _, _ => none) (fun env sto k => ?_) (fun env => ?_) (fun env t d h => ?_)
  · unfold evOp; simp only [ho] <;> rfl
  · cases look cx.tab ty with
    | none => exact .none
    | some e =>
      obtain ⟨ed, _, _, _, _, _⟩ := e
      generalize rd env x = z
      generalize rd env ix = y
      cases ed <;> first
        | exact .none
        | skip
      · cases z <;> first
          | exact .none
          | skip
        cases y <;> first
          | exact .none
          | skip
        rename_i m ty' l _ n
        simp only
        cases tyOk cx ty (.sl m ty' l)
        · exact .none
        · exact bnd_bind _ fun _ => .pure _
      · rename_i len e
        cases z <;> first
          | exact .none
          | skip
        cases y <;> first
          | exact .none
          | skip
        rename_i n
        simp only
        cases look cx.tab e with
        | none => exact .none
        | some te =>
          simp only
          cases decide (0 ≤ n ∧ n < (len : Int))
          · exact .none
          · exact .pure _
  · obtain ⟨h1, h2⟩ := out_app h
    simp only [rd_set h1, rd_set h2]

theorem foot_index {ty x ix} (ho : o.op = .index ty x ix) (h : footOf0 cx all o = some f) : OpFoot cx hc all o f := by
  unfold footOf0 at h
  rw [ho] at h
  cases h
  refine foot_plain (fun env k => match look cx.tab ty, rd env x, rd env ix with
    | some { d := .str, .. }, .str s, .int _ n => (nth s n).bind fun b => k (.int .u8 (b.toNat : Int))
    | some { d := .array len e, .. }, .agg cs, .int _ n => match look cx.tab e with
      | some te => match decide (0 ≤ n ∧ n < (len : Int)), Nat.ble (n.toNat * te.size + te.size) cs.length with
        | true, true => k (ofCells te.agg (((cs.drop (n.toNat * te.size)).take te.size).map D.dup1))
        | _, _ => none
      | none => none
    | _, _, _ => none) (fun env sto k => ?_) (fun env => ?_) (fun env t d h => ?_)
  · unfold evOp; simp only [ho] <;> rfl
  · cases look cx.tab ty with
    | none => exact .none
    | some e =>
      obtain ⟨ed, _, _, _, _, _⟩ := e
      generalize rd env x = z
      generalize rd env ix = y
      cases ed <;> first
        | exact .none
        | skip
      · cases z <;> first
          | exact .none
          | skip
        cases y <;> first
          | exact .none
          | skip
        exact bnd_bind _ fun _ => .pure _
      · rename_i len e
        cases z <;> first
          | exact .none
          | skip
        cases y <;> first
          | exact .none
          | skip
        rename_i cs _ n
        simp only
        cases look cx.tab e with
        | none => exact .none
        | some te =>
          simp only
          cases decide (0 ≤ n ∧ n < (len : Int)) <;> cases Nat.ble (n.toNat * te.size + te.size) cs.length <;> first
            | exact .none
            | exact .pure _
  · obtain ⟨h1, h2⟩ := out_app h
    simp only [rd_set h1, rd_set h2]

theorem foot_extract {x i} (ho : o.op = .extract x i) (h : footOf0 cx all o = some f) : OpFoot cx hc all o f := by
  unfold footOf0 at h
  rw [ho] at h
  cases h
  let L : List D → List D := fun env => match rd env x with
    | .tup cs => match cs[i]? with
      | some c => match c.leaf with
        | true => left env x
        | false => env
      | none => env
    | _ => env
  refine foot_val (fun env k => match rd env x with
    | .tup cs => match cs[i]? with
      | some c => match c.leaf with
        | true => k c
        | false => k c.dup
      | none => none
    | _ => none) L (fun env sto k => ?_) (fun env => ?_) (fun env t d h => ?_) (fun env => ?_) (fun env t d h _ => ?_)
  · unfold evOp; simp only [ho, L]
    generalize rd env x = z
    cases z <;> first
      | rfl
      | skip
    rename_i cs
    simp only
    cases cs[i]? with
    | none => rfl
    | some c => simp only; cases c.leaf <;> rfl
  · generalize rd env x = z
    cases z <;> first
      | exact .none
      | skip
    rename_i cs
    simp only
    cases cs[i]? with
    | none => exact .none
    | some c => simp only; cases c.leaf <;> exact .pure _
  · simp only [rd_set h]
  · simp only [L]
    split
    · split
      · split
        · exact .left (fun _ h => h) _
        · exact .refl _ _
      · exact .refl _ _
    · exact .refl _ _
  · simp only [L, rd_set h, left_set h]
    generalize rd env x = z
    cases z <;> first
      | rfl
      | skip
    rename_i cs
    simp only
    cases cs[i]? with
    | none => rfl
    | some c => simp only; cases c.leaf <;> rfl

/-- Is the slice that is converted to its own type taken over? -/
def convOwn (cx : Cx) (src dst : TypeId) (x : D) : Option (Option D) :=
  match look cx.tab src, Nat.beq src dst, x with
  | some { d := .slice e, .. }, true, .sl m .byte l => match look cx.tab e with
    | some { d := .int .u8, .. } => match m, l with
      | .own, c :: l' => some (some (.sl .ro .byte (c :: l')))
      | _, _ => some none
    | _ => some none
  | _, _, _ => none

theorem foot_convert {src dst x} (ho : o.op = .convert src dst x) (h : footOf0 cx all o = some f) : OpFoot cx hc all o f := by
  unfold footOf0 at h
  rw [ho] at h
  cases h
  refine foot_val (fun env k => match convOwn cx src dst (rd env x) with
    | some (some d) => k d
    | some none => none
    | none => convK cx src dst (rd env x) k) (fun env => match convOwn cx src dst (rd env x) with
    | some (some _) => left env x
    | _ => env) (fun env sto k => ?_) (fun env => ?_) (fun env t d h => ?_) (fun env => ?_) (fun env t d h _ => ?_)
  · unfold evOp; simp only [ho]
    unfold convOwn
    cases look cx.tab src with
    | none => rfl
    | some e =>
      obtain ⟨ed, _, _, _, _, _⟩ := e
      cases ed <;> first
        | rfl
        | skip
      rename_i e
      cases Nat.beq src dst
      · rfl
      · generalize rd env x = z
        cases z <;> first
          | rfl
          | skip
        rename_i m ty l
        cases ty <;> first
          | rfl
          | skip
        simp only
        cases look cx.tab e with
        | none => rfl
        | some e2 =>
          obtain ⟨ed2, _, _, _, _, _⟩ := e2
          cases ed2 <;> first
            | rfl
            | skip
          rename_i kk
          cases kk <;> first
            | rfl
            | skip
          cases m <;> first
            | rfl
            | (cases l <;> rfl)
  · skip
    cases convOwn cx src dst (rd env x) with
    | none => exact convK_bnd _ _ _
    | some y => cases y with
      | none => exact .none
      | some d => exact .pure _
  · simp only [rd_set h]
  · simp only
    split
    · exact .left (fun _ h => h) _
    · exact .refl _ _
  · simp only [rd_set h, left_set h]
    split <;> rfl

theorem map_rd_set {env : List D} {t : Nat} {d : D} : ∀ {l : List Operand}, t ∉ tmpsOf l → (l.map fun x => (rd (env.set t d) x).dup) = l.map fun x => (rd env x).dup
  | [], _ => rfl
  | x :: r, h => by
    obtain ⟨h1, h2⟩ := out_cons h
    simp only [List.map_cons, rd_set h1, map_rd_set h2]

theorem foot_makeFunc {fo first caps} (ho : o.op = .makeFunc fo first caps) (h : footOf0 cx all o = some f) : OpFoot cx hc all o f := by
  unfold footOf0 at h
  rw [ho] at h
  cases h
  refine foot_plain (fun env k => match fo with
    | .func f => match first.toList with
      | [] => k (.fn f (caps.toList.map fun x => (rd env x).dup))
      | _ => none
    | _ => none) (fun env sto k => ?_) (fun env => ?_) (fun env t d h => ?_)
  · unfold evOp; simp only [ho]
    cases fo <;> rfl
  · cases fo <;> first
      | exact .none
      | skip
    simp only
    cases first.toList
    · exact .pure _
    · exact .none
  · simp only [map_rd_set h]

theorem foot_buildSlice {ty len parts} (ho : o.op = .buildSlice ty len parts) (h : footOf0 cx all o = some f) : OpFoot cx hc all o f := by
  unfold footOf0 at h
  rw [ho] at h
  cases h
  refine foot_plain (fun env k => match look cx.tab ty with
    | some { d := .slice e, .. } => match look cx.tab e with
      | some { size := sz, ty := some ty, zero := z, .. } => match fillL sz env parts.toList (List.replicate len z) with
        | some cs => match decRow ty cs with
          | some l => match Nat.ble (len * sz) 16777216 with
            | true => k (.sl .own ty l)
            | false => none
          | none => none
        | none => none
      | _ => none
    | _ => none) (fun env sto k => ?_) (fun env => ?_) (fun env t d h => ?_)
  · unfold evOp; simp only [ho] <;> rfl
  · cases look cx.tab ty with
    | none => exact .none
    | some e =>
      obtain ⟨ed, _, _, _, _, _⟩ := e
      cases ed <;> first
        | exact .none
        | skip
      rename_i e
      simp only
      cases look cx.tab e with
      | none => exact .none
      | some e2 =>
        obtain ⟨ed2, sz, by2, ag2, ty2, z2⟩ := e2
        cases ty2 with
        | none => exact .none
        | some ty2 =>
          simp only
          cases fillL sz env parts.toList (List.replicate len z2) with
          | none => exact .none
          | some cs =>
            simp only
            cases decRow ty2 cs with
            | none => exact .none
            | some l =>
              simp only
              cases Nat.ble (len * sz) 16777216
              · exact .none
              · exact .pure _
  · simp only [fillL_set (sz := _) parts.toList env _ h]

theorem foot_build {ty parts} (ho : o.op = .build ty parts) (h : footOf0 cx all o = some f) : OpFoot cx hc all o f := by
  unfold footOf0 at h
  rw [ho] at h
  cases h
  let F : List D → Option (List D × List D) := fun env => match look cx.tab ty with
    | some { d := .struct fs, zero := z, .. } => fillS fs env parts.toList z
    | _ => none
  have hF : ∀ env (t : Nat) d, t ∉ tmpsOf (parts.toList.map (·.2)) → F (env.set t d) = (F env).map fun p => (p.1, p.2.set t d) := by
    intro env t d h
    simp only [F]
    split
    · exact fillS_set _ _ _ h
    · rfl
  refine foot_val (fun env k => match F env with
    | some (cs, _) => k (.agg cs)
    | none => none) (fun env => match F env with
    | some (_, env) => env
    | none => env) (fun env sto k => ?_) (fun env => ?_) (fun env t d h => ?_) (fun env => ?_) (fun env t d h _ => ?_)
  · unfold evOp; simp only [ho, F]
    cases look cx.tab ty with
    | none => rfl
    | some e =>
      obtain ⟨ed, _, _, _, _, z⟩ := e
      cases ed <;> first
        | rfl
        | skip
      rename_i fs
      simp only
      cases fillS fs env parts.toList z with
      | none => rfl
      | some p => rfl
  · skip
    cases F env with
    | none => exact .none
    | some p => exact .pure _
  · simp only [hF env t d h]
    cases F env <;> rfl
  · simp only [F]
    cases look cx.tab ty with
    | none => exact .refl _ _
    | some e =>
      obtain ⟨ed, _, _, _, _, z⟩ := e
      cases ed <;> first
        | exact .refl _ _
        | skip
      rename_i fs
      simp only
      cases hp : fillS fs env parts.toList z with
      | none => exact .refl _ _
      | some p => exact fillS_chg _ _ _ _ hp
  · simp only [hF env t d h]
    cases F env <;> rfl

theorem foot_len {args ats} (ho : o.op = .call { callee := .builtin .len, args, argTypes := ats }) (h : footOf0 cx all o = some f) : OpFoot cx hc all o f := by
  unfold footOf0 at h
  rw [ho] at h
  cases h
  refine foot_plain (fun env k => match args.toList, ats.toList with
    | [x], [t] => match look cx.tab t, rd env x with
      | some { d := .str, .. }, .str s => k (.int .i64 (s.length : Int))
      | some { d := .slice _, .. }, .nils => k (.int .i64 0)
      | some { d := .slice _, .. }, .sl _ _ l => k (.int .i64 (l.length : Int))
      | some { d := .array len _, .. }, _ => match Nat.ble len 9223372036854775807 with
        | true => k (.int .i64 (len : Int))
        | false => none
      | _, _ => none
    | _, _ => none) (fun env sto k => ?_) (fun env => ?_) (fun env t d h => ?_)
  · unfold evOp; simp only [ho] <;> rfl
  · split
    · rename_i x t _ _
      cases look cx.tab t with
      | none => exact .none
      | some e =>
        obtain ⟨ed, _, _, _, _, _⟩ := e
        generalize rd env x = z
        cases ed <;> first
          | exact .none
          | skip
        · cases z <;> first
            | exact .none
            | exact .pure _
        · cases z <;> first
            | exact .none
            | exact .pure _
        · rename_i len e
          simp only
          cases Nat.ble len 9223372036854775807
          · exact .none
          · exact .pure _
    · exact .none
  · dsimp only at h ⊢
    split
    · rename_i x t' hx _
      rw [hx] at h
      rw [rd_set (out_cons h).1]
    · rfl

theorem foot_append {args ats} (ho : o.op = .call { callee := .builtin .append, args, argTypes := ats }) (h : footOf0 cx all o = some f) : OpFoot cx hc all o f := by
  unfold footOf0 at h
  rw [ho] at h
  cases h
  refine foot_val (fun env k => match args.toList, ats.toList with
    | [x, y], [t, t2] => match look cx.tab t2 with
      | some { d := .slice _, .. } | some { d := .str, .. } => appendK cx t (rd env x) (rd env y) k
      | _ => none
    | _, _ => none) (fun env => match args.toList with
    | [x, _] => left env x
    | _ => env) (fun env sto k => ?_) (fun env => ?_) (fun env t d h => ?_) (fun env => ?_) (fun env t d h _ => ?_)
  · unfold evOp; simp only [ho]
    generalize args.toList = al
    generalize ats.toList = tl
    rcases al with _ | ⟨x, _ | ⟨y, _ | _⟩⟩ <;> rcases tl with _ | ⟨t, _ | ⟨t2, _ | _⟩⟩ <;> rfl
  · split
    · split
      · exact appendK_bnd _ _ _
      · exact appendK_bnd _ _ _
      · exact .none
    · exact .none
  · dsimp only at h ⊢
    split
    · rename_i x y t' t2 hx _
      rw [hx] at h
      obtain ⟨h1, h2⟩ := out_cons h
      rw [rd_set h1, rd_set (out_cons h2).1]
    · rfl
  · dsimp only
    split
    · rename_i x y hx
      exact .left (fun t h => by rw [hx]; simp [tmpsOf, h]) _
    · exact .refl _ _
  · dsimp only at h ⊢
    split
    · rename_i x y hx
      rw [hx] at h
      exact left_set (out_cons h).1
    · rfl

end
end Go.Ev

namespace Go.Ev
section
variable {R : Type} {cx : Cx}
variable {hc : FuncId → List D → Sto → (D → Sto → Option R) → Option R} {all : List Oper} {o : Oper} {f : Foot}

theorem foot_load {ty x} (ho : o.op = .load ty x) (h : footOf0 cx all o = some f) : OpFoot cx hc all o f := by
  unfold footOf0 at h
  rw [ho] at h
  simp only at h
  refine foot_gen (fun env sto => match look cx.tab ty with
    | some e => match rd env x with
      | .ptr i off => match rowOf sto i with
        | some cs => match Nat.ble (off + e.size) cs.length with
          | true => match e.agg, stealsLd cx o.type all o.dst, (cs.getD off .any).leaf with
            | false, true, true => some (cs.getD off .any, env, sto.set i (cs.set off (cs.getD off .any).dup1))
            | _, _, _ => some (ofCells e.agg (((cs.drop off).take e.size).map D.dup1), env, sto)
          | false => none
        | none => none
      | .box cs => match Nat.ble e.size cs.length with
        | true => some (ofCells e.agg ((cs.take e.size).map D.dup1), env, sto)
        | false => none
      | _ => none
    | none => none) (fun env sto k => ?_) (fun env sto t d h1 _ => ?_) (fun env sto p hp => ?_) ?_
  · unfold evOp; simp only [ho]
    cases look cx.tab ty with
    | none => rfl
    | some e =>
      generalize rd env x = z
      cases z <;> first
        | rfl
        | skip
      · rename_i i off
        simp only
        cases rowOf sto i with
        | none => rfl
        | some cs =>
          simp only
          cases Nat.ble (off + e.size) cs.length
          · rfl
          · cases e.agg <;> cases stealsLd cx o.type all o.dst <;> cases (cs.getD off .any).leaf <;> rfl
      · rename_i cs
        simp only
        cases Nat.ble e.size cs.length <;> rfl
  · have hx : t ∉ tmpOf x := by
      cases hs : stealsLd cx o.type all o.dst <;> rw [hs] at h <;> cases h <;> exact h1
    simp only [rd_set hx]
    cases look cx.tab ty with
    | none => rfl
    | some e =>
      generalize rd env x = z
      cases z <;> first
        | rfl
        | skip
      · rename_i i off
        simp only
        cases rowOf sto i with
        | none => rfl
        | some cs =>
          simp only
          cases Nat.ble (off + e.size) cs.length
          · rfl
          · cases e.agg <;> cases stealsLd cx o.type all o.dst <;> cases (cs.getD off .any).leaf <;> rfl
      · rename_i cs
        simp only
        cases Nat.ble e.size cs.length <;> rfl
  · split at hp
    · split at hp
      · split at hp
        · split at hp
          · split at hp
            · rename_i hs _
              rw [hs] at h; cases h; cases hp
              exact ⟨.refl _ _, fun h => by cases h⟩
            · cases hp; exact ⟨.refl _ _, fun _ => rfl⟩
          · cases hp
        · cases hp
      · split at hp
        · cases hp; exact ⟨.refl _ _, fun _ => rfl⟩
        · cases hp
      · cases hp
    · cases hp
  · cases hs : stealsLd cx o.type all o.dst <;> rw [hs] at h <;> cases h <;> rfl

theorem foot_alloc {ty} (ho : o.op = .alloc ty) (h : footOf0 cx all o = some f) : OpFoot cx hc all o f := by
  unfold footOf0 at h
  rw [ho] at h
  cases h
  refine foot_gen (fun env sto => match look cx.tab ty with
    | some { zero := [], .. } => none
    | some e => some (.ptr sto.length 0, env, sto ++ [e.zero])
    | none => none) (fun env sto k => ?_) (fun env sto t d h1 _ => ?_) (fun env sto p hp => ?_) rfl
  · unfold evOp; simp only [ho]
    cases look cx.tab ty with
    | none => rfl
    | some e =>
      obtain ⟨_, _, _, _, _, z⟩ := e
      cases z <;> rfl
  · cases look cx.tab ty with
    | none => rfl
    | some e =>
      obtain ⟨_, _, _, _, _, z⟩ := e
      cases z <;> rfl
  · refine ⟨?_, fun h => by cases h⟩
    split at hp
    · cases hp
    · cases hp; exact .refl _ _
    · cases hp

theorem foot_box {ty x} (ho : o.op = .box ty x) (h : footOf0 cx all o = some f) : OpFoot cx hc all o f := by
  unfold footOf0 at h
  rw [ho] at h
  cases h
  refine foot_gen (fun env sto => match look cx.tab ty with
    | some e => match fits (rd env x).cells e.size with
      | true => some (.ptr sto.length 0, left env x, sto ++ [(rd env x).cells])
      | false => none
    | none => none) (fun env sto k => ?_) (fun env sto t d h1 _ => ?_) (fun env sto p hp => ?_) rfl
  · unfold evOp; simp only [ho]
    cases look cx.tab ty with
    | none => rfl
    | some e =>
      simp only
      cases fits (rd env x).cells e.size <;> rfl
  · simp only [rd_set h1, left_set h1]
    cases look cx.tab ty with
    | none => rfl
    | some e =>
      simp only
      cases fits (rd env x).cells e.size <;> rfl
  · refine ⟨?_, fun h => by cases h⟩
    split at hp
    · split at hp
      · cases hp; exact .left (fun _ h => h) _
      · cases hp
    · cases hp

theorem foot_store {ty a x} (ho : o.op = .store ty a x) (h : footOf0 cx all o = some f) : OpFoot cx hc all o f := by
  unfold footOf0 at h
  rw [ho] at h
  cases h
  refine foot_gen (fun env sto => match look cx.tab ty with
    | some e => match rd env a with
      | .ptr i off => match rowOf sto i with
        | some cs => match Nat.ble (off + e.size) cs.length, fits (rd env x).cells e.size with
          | true, true => some (.tup [], left env x, sto.set i (splice cs off (rd env x).cells))
          | _, _ => none
        | none => none
      | _ => none
    | none => none) (fun env sto k => ?_) (fun env sto t d h1 _ => ?_) (fun env sto p hp => ?_) rfl
  · unfold evOp; simp only [ho]
    cases look cx.tab ty with
    | none => rfl
    | some e =>
      generalize rd env a = z
      cases z <;> first
        | rfl
        | skip
      rename_i i off
      simp only
      cases rowOf sto i with
      | none => rfl
      | some cs =>
        simp only
        cases Nat.ble (off + e.size) cs.length <;> cases fits (rd env x).cells e.size <;> rfl
  · obtain ⟨ha, hx⟩ := out_app h1
    simp only [rd_set ha, rd_set hx, left_set hx]
    cases look cx.tab ty with
    | none => rfl
    | some e =>
      generalize rd env a = z
      cases z <;> first
        | rfl
        | skip
      rename_i i off
      simp only
      cases rowOf sto i with
      | none => rfl
      | some cs =>
        simp only
        cases Nat.ble (off + e.size) cs.length <;> cases fits (rd env x).cells e.size <;> rfl
  · refine ⟨?_, fun h => by cases h⟩
    split at hp
    · split at hp
      · split at hp
        · split at hp
          · cases hp; exact .left (fun _ h => h) _
          · cases hp
        · cases hp
      · cases hp
    · cases hp

/-- Calls to the functions of the list come to one answer, or to none; the calm ones leave the store as it is. -/
def BndOk (cx : Cx) (hc : FuncId → List D → Sto → (D → Sto → Option R) → Option R) : Prop :=
  ∀ f, cx.bnd.any (Nat.beq f) = true → ∀ args sto, ∃ s : Option (D × Sto), (∀ K, hc f args sto K = s.bind fun p => K p.1 p.2) ∧ (cx.calm.any (Nat.beq f) = true → ∀ p, s = some p → p.2 = sto)

theorem bound_fn {l : List Nat} {x : Operand} (h : bound l x = true) : ∃ f, x = .func f ∧ l.any (Nat.beq f) = true := by
  cases x <;> first
    | exact ⟨_, rfl, h⟩
    | cases h

theorem foot_call (hb : BndOk cx hc) {fo args ats} (ho : o.op = .call { callee := .value fo, args, argTypes := ats }) (h : footOf0 cx all o = some f) : OpFoot cx hc all o f := by
  unfold footOf0 at h
  rw [ho] at h
  simp only at h
  cases hbd : bound cx.bnd fo with
  | false => rw [hbd] at h; cases h
  | true =>
    rw [hbd] at h
    cases h
    obtain ⟨fn, rfl, hin⟩ := bound_fn hbd
    have hch := fun ds sto => Classical.choose_spec (hb fn hin ds sto)
    let G : List D → Sto → Option (D × Sto) := fun ds sto => Classical.choose (hb fn hin ds sto)
    refine foot_gen (fun env sto => (G ((argsOf env ((look cx.want fn).getD []) 0 args.toList).1 ++ []) sto).map fun p => (p.1, (argsOf env ((look cx.want fn).getD []) 0 args.toList).2, p.2))
      (fun env sto k => ?_) (fun env sto t d h1 _ => ?_) (fun env sto p hp => ?_) rfl
    · unfold evOp; simp only [ho, rd, List.map_nil]
      rw [(hch _ _).1]
      show _ = Option.bind (Option.map _ (G _ _)) _
      cases hG : G ((argsOf env ((look cx.want fn).getD []) 0 args.toList).1 ++ []) sto with
      | none => simp only [G] at hG; rw [hG]; rfl
      | some p => simp only [G] at hG; rw [hG]; rfl
    · have h1' : t ∉ tmpsOf args.toList := (out_app h1).2
      simp only [argsOf_set args.toList 0 env h1']
      cases G ((argsOf env ((look cx.want fn).getD []) 0 args.toList).1 ++ []) sto <;> rfl
    · cases hG : G ((argsOf env ((look cx.want fn).getD []) 0 args.toList).1 ++ []) sto with
      | none => rw [hG] at hp; cases hp
      | some q =>
        rw [hG] at hp; cases hp
        exact ⟨argsOf_chg _ _ _, fun hc => (hch _ sto).2 hc q hG⟩

theorem footOf0_ok (hb : BndOk cx hc) (h : footOf0 cx all o = some f) : OpFoot cx hc all o f := by
  have h0 := h
  unfold footOf0 at h
  split at h
  · rename_i ho; exact foot_move ho h0
  · rename_i ho; exact foot_assign ho h0
  · rename_i ho; exact foot_pick ho h0
  · rename_i ho; exact foot_nilCheck ho h0
  · rename_i ho; exact foot_binOp ho h0
  · rename_i ho; exact foot_unOp ho h0
  · rename_i ho; exact foot_convert ho h0
  · rename_i ho; exact foot_slice ho h0
  · rename_i ho; exact foot_fieldAddr ho h0
  · rename_i ho; exact foot_field ho h0
  · rename_i ho; exact foot_indexAddr ho h0
  · rename_i ho; exact foot_index ho h0
  · rename_i ho; exact foot_extract ho h0
  · rename_i ho; exact foot_makeFunc ho h0
  · rename_i ho; exact foot_buildSlice ho h0
  · rename_i ho; exact foot_build ho h0
  · rename_i ho; exact foot_load ho h0
  · rename_i ho; exact foot_alloc ho h0
  · rename_i ho; exact foot_box ho h0
  · rename_i ho; exact foot_store ho h0
  · rename_i ho; exact foot_len ho h0
  · rename_i ho; exact foot_append ho h0
  · rename_i ho; exact foot_call hb ho h0
  · cases h

end
end Go.Ev

/-! What operations on arrays read, lay and leave. -/
namespace Go.Ev
section
variable {R : Type} {cx : Cx}
variable {hc : FuncId → List D → Sto → (D → Sto → Option R) → Option R} {all : List Oper} {o : Oper} {f : Foot}

structure OpFootN (cx : Cx) (hc : FuncId → List D → Sto → (D → Sto → Option R) → Option R) (all : List Oper) (o : Oper) (f : Foot) : Prop where
  nf : ∀ st, NF (dstT o.dst ++ f.wr) f.calm st (evOpN cx hc all o st)
  loc : ∀ (t : Nat) d env sto k, t ∉ f.rd → t ∉ dstT o.dst → t ∉ f.wr → evOpN cx hc all o ⟨env.set t d, sto⟩ k = evOpN cx hc all o ⟨env, sto⟩ (fun st' => k ⟨st'.env.set t d, st'.sto⟩)
  sf : f.apart = true → ∀ env sto sto' k, evOpN cx hc all o ⟨env, sto'⟩ k = evOpN cx hc all o ⟨env, sto⟩ (fun st' => k ⟨st'.env, sto'⟩)

/-- The slots that an operation on arrays looks at. -/
def xRd (o : Oper) : List Nat := match o.op with
  | .move x | .assign x | .box _ x | .load _ x | .fieldAddr _ x _ | .extract x _ => tmpOf x
  | .store _ a x => tmpOf a ++ tmpOf x
  | .indexAddr _ x ix => tmpOf x ++ tmpOf ix
  | .slice _ x lo hi mx => tmpOf x ++ optOf lo ++ optOf hi ++ optOf mx
  | .call { args, .. } => tmpsOf args.toList
  | _ => []

theorem map_opt {f f' : Operand → D} {x : Option Operand} (h : ∀ y, (∀ t, t ∈ tmpOf y → t ∈ optOf x) → f y = f' y) : x.map f = x.map f' := by
  cases x with
  | none => rfl
  | some y => exact congrArg some (h y (fun t ht => ht))

theorem xV_congr {f f' : Operand → D} {sto : Sto} (h : ∀ x, (∀ t, t ∈ tmpOf x → t ∈ xRd o) → f x = f' x) : xV (R := R) cx o f sto = xV cx o f' sto := by
  unfold xV
  split
  · rename_i x ho; simp only [xRd, ho] at h; rw [h x (fun _ h => h)]
  · rename_i x ho; simp only [xRd, ho] at h; rw [h x (fun _ h => h)]
  · rename_i t x ho; simp only [xRd, ho] at h; rw [h x (fun _ h => h)]
  · rename_i t x ho; simp only [xRd, ho] at h; rw [h x (fun _ h => h)]
  · rename_i t a x ho; simp only [xRd, ho] at h; rw [h a (fun _ h => List.mem_append_left _ h), h x (fun _ h => List.mem_append_right _ h)]
  · rename_i t x g ho; simp only [xRd, ho] at h; rw [h x (fun _ h => h)]
  · rename_i t x ix ho; simp only [xRd, ho] at h; rw [h x (fun _ h => List.mem_append_left _ h), h ix (fun _ h => List.mem_append_right _ h)]
  · rename_i t x lo hi ho
    simp only [xRd, ho] at h
    rw [h x (fun t ht => by simp [ht]), map_opt (x := lo) (fun y hy => h y (fun t ht => by simp [hy t ht])), map_opt (x := hi) (fun y hy => h y (fun t ht => by simp [hy t ht]))]
  · rename_i args ats ho
    simp only [xRd, ho] at h
    split
    · rename_i x t hx _
      rw [hx] at h
      rw [h x (fun t ht => by simp [tmpsOf, ht])]
    · rfl
  · rename_i args ats ho
    simp only [xRd, ho] at h
    split
    · rename_i x y t t2 hx _
      rw [hx] at h
      rw [h x (fun t ht => by simp [tmpsOf, ht]), h y (fun t ht => by simp [tmpsOf, ht])]
    · rfl
  · rename_i args ats ho
    simp only [xRd, ho] at h
    split
    · rename_i x t hx _
      rw [hx] at h
      rw [h x (fun t ht => by simp [tmpsOf, ht])]
    · rfl
  · rfl
  · rename_i x i ho; simp only [xRd, ho] at h; rw [h x (fun _ h => h)]
  · rfl

/-- One answer, or none; where it is calm, over the same store. -/
def VB (calm : Bool) (sto : Sto) (V : (D → Sto → Option R) → Option R) : Prop := ∃ s : Option (D × Sto), (∀ k, V k = s.bind fun p => k p.1 p.2) ∧ (calm = true → ∀ p, s = some p → p.2 = sto)

theorem VB.none {c sto} : VB (R := R) c sto fun _ => none := ⟨.none, fun _ => rfl, fun _ _ h => by cases h⟩
theorem VB.pure {c : Bool} {sto : Sto} (d : D) (s : Sto) (h : c = true → s = sto) : VB (R := R) c sto fun k => k d s := ⟨some (d, s), fun _ => rfl, fun hc p hp => by cases hp; exact h hc⟩
theorem VB.bind {α : Type} {c : Bool} {sto : Sto} (m : Option α) {V : α → (D → Sto → Option R) → Option R} (h : ∀ x, VB c sto (V x)) : VB (R := R) c sto fun k => m.bind fun x => V x k := by
  cases m with
  | none => exact .none
  | some x => exact h x
theorem VB.boundK {c : Bool} {sto : Sto} (x : D) (hi : Nat) {V : Nat → (D → Sto → Option R) → Option R} (h : ∀ n, VB c sto (V n)) : VB (R := R) c sto fun k => Ev.boundK x hi fun n => V n k := by
  cases x <;> first
    | exact .none
    | skip
  rename_i kd n
  show VB c sto fun k => match decide (0 ≤ n ∧ n ≤ (hi : Int)) with | true => V n.toNat k | false => Option.none
  cases decide (0 ≤ n ∧ n ≤ (hi : Int))
  · exact .none
  · exact h _
theorem VB.optK {c : Bool} {sto : Sto} (x : Option D) (d hi : Nat) {V : Nat → (D → Sto → Option R) → Option R} (h : ∀ n, VB c sto (V n)) : VB (R := R) c sto fun k => Ev.optK x d hi fun n => V n k := by
  cases x with
  | none => exact h d
  | some x => exact VB.boundK x hi h

theorem appendK_vb {c : Bool} {sto : Sto} (st : TypeId) (x y : D) : VB (R := R) c sto fun k => appendK cx st x y fun d => k d sto := by
  obtain ⟨s, hs⟩ := appendK_bnd (R := R) (cx := cx) st x y
  refine ⟨s.map fun d => (d, sto), fun k => ?_, fun _ p h => ?_⟩
  · dsimp only; rw [hs]; cases s <;> rfl
  · cases s <;> cases h; rfl

theorem xV_vb {fr : Operand → D} {sto : Sto} {V : (D → Sto → Option R) → Option R} (h : xV cx o fr sto = some V) : VB (xCalm o) sto V := by
  unfold xV at h
  split at h
  · rename_i x ho
    split at h
    · split at h
      · cases h; exact .pure _ _ (by simp [xCalm, ho])
      · cases h
    · cases h
  · rename_i x ho
    split at h
    · split at h
      · cases h; exact .pure _ _ (by simp [xCalm, ho])
      · cases h
    · cases h
  · rename_i t x ho
    split at h
    · split at h
      · rename_i e _ _
        cases h
        cases fits (fr x).cells e.size
        · exact .none
        · exact .pure _ _ (by simp [xCalm, ho])
      · cases h
    · cases h
  · split at h
    · split at h
      · split at h
        · cases h; exact .bind _ fun _ => .pure _ _ (fun _ => rfl)
        · cases h
      · cases h
    · cases h
  · rename_i t a x ho
    split at h
    · split at h
      · split at h
        · cases h
          refine .bind _ fun y => ?_
          rename_i p _ _ _ _ _
          split
          · exact .pure _ _ (by simp [xCalm, ho])
          · exact .none
        · cases h
      · cases h
    · cases h
  · split at h
    · split at h
      · split at h
        · cases h; exact .pure _ _ (fun _ => rfl)
        · cases h
      · cases h
    · cases h
  · split at h
    · split at h
      · split at h
        · cases h; exact .bind _ fun _ => .pure _ _ (fun _ => rfl)
        · cases h
      · cases h
    · cases h
  · rename_i t x lo hi ho
    have hcm : xCalm o = false := by simp [xCalm, ho]
    rw [hcm]
    split at h
    · unfold xSlice at h
      split at h
      · split at h
        · split at h
          · cases h
            exact VB.optK _ _ _ fun _ => .pure _ _ (fun h => by cases h)
          · cases h
            rename_i p _ _ _ _ _ _
            exact VB.optK (V := fun h k => optK _ 0 h fun l => k (.hd _ p.1 l (h - l)) sto) _ _ _ fun h => VB.optK _ _ _ fun _ => .pure _ _ (fun h => by cases h)
        · cases h
      · cases h
    · cases h
  · split at h
    · split at h
      · split at h
        · cases h; exact .pure _ _ (fun _ => rfl)
        · cases h
      · cases h
    · cases h
  · rename_i args ats ho
    have hcm : xCalm o = false := by simp [xCalm, ho]
    rw [hcm]
    split at h
    · split at h
      · unfold xAppend at h
        split at h
        · split at h
          · split at h
            · split at h
              · rename_i by_ _ _ _ _ _ _ _ l l' _ _
                cases h
                split
                · exact .pure _ _ (fun h => by cases h)
                · exact .none
              · cases h
            · cases h
          · cases h
        · cases h
      · rename_i x y t t2 _ _ _ _ _ _
        split at h
        · split at h
          · rename_i p ha
            cases h
            exact appendK_vb _ _ _
          · cases h
        · cases h
      · cases h
    · cases h
  · rename_i args ats ho
    have hcm : xCalm o = false := by simp [xCalm, ho]
    rw [hcm]
    split at h
    · split at h
      · split at h
        · split at h
          · unfold xClear at h
            split at h
            · split at h
              · split at h
                · split at h
                  · cases h
                    split
                    · exact .pure _ _ (fun h => by cases h)
                    · exact .none
                  · cases h
                · cases h
              · cases h
            · cases h
          · cases h
        · cases h
      · cases h
    · cases h
  · rename_i t len parts ho
    have hcm : xCalm o = false := by simp [xCalm, ho]
    rw [hcm]
    split at h
    · split at h
      · split at h
        · split at h
          · cases h; exact .pure _ _ (fun h => by cases h)
          · cases h
        · cases h
      · cases h
    · cases h
  · split at h
    · split at h
      · cases h; exact .pure _ _ (fun _ => rfl)
      · cases h
    · cases h
  · cases h

theorem evOpN_off (h : xOn cx o = false) (st : St) (k : St → Option R) : evOpN cx hc all o st k = evOp cx hc all o st k := by
  unfold evOpN; rw [h]

theorem foot_x (hx : xOn cx o = true) (h0 : ∀ st, NF (dstT o.dst ++ f.wr) f.calm st (evOp (R := R) cx hc all o st))
    (hl0 : ∀ (t : Nat) d env sto k, t ∉ f.rd → t ∉ dstT o.dst → t ∉ f.wr → evOp cx hc all o ⟨env.set t d, sto⟩ k = evOp cx hc all o ⟨env, sto⟩ (fun st' => k ⟨st'.env.set t d, st'.sto⟩))
    (hrd : ∀ t, t ∈ xRd o → t ∈ f.rd) (hL : ∀ env, Chg f.wr env (xL o env)) (hLs : ∀ (t : Nat) d env, t ∉ f.wr → xL o (env.set t d) = (xL o env).set t d) (hcalm : f.calm = true → xCalm o = true) (hap : f.apart = false) : OpFootN cx hc all o f := by
  have hon : ∀ st (k : St → Option R), evOpN cx hc all o st k = match xV cx o (rd st.env) st.sto with
    | some F => F fun d sto => k ⟨put (xL o st.env) o.dst d, sto⟩
    | none => evOp cx hc all o st k   := fun st k => by unfold evOpN; rw [hx]; rfl
  refine ⟨fun st => ?_, fun t d env sto k h1 h2 h3 => ?_, fun h => by rw [hap] at h; cases h⟩
  · cases hV : xV (R := R) cx o (rd st.env) st.sto with
    | none =>
      obtain ⟨s, hs, hc'⟩ := h0 st
      refine ⟨s, fun k => ?_, hc'⟩
      rw [hon, hV]; exact hs k
    | some V =>
      obtain ⟨s, hs, hcm⟩ := xV_vb hV
      refine ⟨s.map fun p => ⟨put (xL o st.env) o.dst p.1, p.2⟩, fun k => ?_, fun st' h => ?_⟩
      · rw [hon, hV]; dsimp only; rw [hs]; cases s <;> rfl
      · cases s with
        | none => cases h
        | some p =>
          cases h
          exact ⟨((hL st.env).mono (fun t h => List.mem_append_right _ h)).trans (.put (fun t h => List.mem_append_left _ h) _ _), fun hc' => hcm (hcalm hc') p rfl⟩
  · rw [hon, hon]
    have e : xV (R := R) cx o (rd (env.set t d)) sto = xV cx o (rd env) sto := xV_congr fun x hx' => rd_set (fun ht => h1 (hrd t (hx' t ht)))
    dsimp only
    rw [e]
    cases xV (R := R) cx o (rd env) sto with
    | none => exact hl0 t d env sto k h1 h2 h3
    | some V => dsimp only; simp only [hLs t d env h3, put_set h2]

/-- What is taken out of a tuple that stays as it is. -/
theorem foot_xextract {x : Operand} {i : Nat} (ho : o.op = .extract x i) (hx : xOn cx o = true) : OpFootN (R := R) cx hc all o ⟨tmpOf x, [], true, true⟩ := by
  have hon : ∀ env sto (k : St → Option R), evOpN cx hc all o ⟨env, sto⟩ k = match rd env x with
      | .tup cs => match cs[i]? with
        | some c => k ⟨put env o.dst c.dup, sto⟩
        | none => none
      | _ => none := fun env sto k => by
    unfold evOpN xV xL evOp
    rw [hx]
    simp only [ho]
    generalize rd env x = z
    cases z <;> try rfl
    rename_i cs
    dsimp only
    cases cs[i]? <;> rfl
  refine ⟨fun st => ?_, fun t d env sto k h1 h2 h3 => ?_, fun h env sto sto' k => ?_⟩
  · obtain ⟨env, sto⟩ := st
    have hn : NF (R := R) (dstT o.dst ++ []) true ⟨env, sto⟩ fun _ => none := ⟨none, fun _ => rfl, fun _ h => by cases h⟩
    cases hz : rd env x with
    | tup cs =>
      cases hc0 : cs[i]? with
      | none => refine ⟨none, fun k => ?_, fun _ h => by cases h⟩; rw [hon, hz]; dsimp only; rw [hc0]; rfl
      | some c =>
        refine ⟨some ⟨put env o.dst c.dup, sto⟩, fun k => ?_, fun st' h => ?_⟩
        · rw [hon, hz]; dsimp only; rw [hc0]; rfl
        · cases h; exact ⟨.put (fun t h => List.mem_append_left _ h) _ _, fun _ => rfl⟩
    | _ => refine ⟨none, fun k => ?_, fun _ h => by cases h⟩; rw [hon, hz]; rfl
  · rw [hon, hon, rd_set h1]
    cases rd env x <;> try rfl
    rename_i cs
    dsimp only
    cases cs[i]? with
    | none => rfl
    | some c => dsimp only; rw [put_set h2]
  · rw [hon, hon]

theorem footOf_ok (hb : BndOk cx hc) (h : footOf cx all o = some f) : OpFootN cx hc all o f := by
  unfold footOf at h
  cases hx : xOn cx o with
  | false =>
    rw [hx] at h
    have h0 := footOf0_ok hb h
    refine ⟨fun st => ?_, fun t d env sto k h1 h2 h3 => ?_, fun ha env sto sto' k => ?_⟩
    · obtain ⟨s, hs, hc'⟩ := h0.nf st
      exact ⟨s, fun k => by rw [evOpN_off hx]; exact hs k, hc'⟩
    · rw [evOpN_off hx, evOpN_off hx]; exact h0.loc t d env sto k h1 h2 h3
    · rw [evOpN_off hx, evOpN_off hx]; exact h0.sf ha env sto sto' k
  | true =>
    rw [hx] at h
    dsimp only at h
    unfold footX at h
    split at h
    · rename_i args ats ho
      cases h
      have hn : ∀ st (k : St → Option R), evOp cx hc all o st k = none := fun st k => by unfold evOp; simp only [ho]
      refine foot_x hx (fun st => ⟨none, fun k => by rw [hn]; rfl, fun _ h => by cases h⟩) (fun t d env sto k _ _ _ => by rw [hn, hn]) (fun t ht => by simpa [xRd, ho] using ht) (fun env => by simp only [xL, ho]; exact .refl _ _)
        (fun t d env _ => by simp only [xL, ho]) (fun h => by cases h) rfl
    · rename_i x i ho
      cases h
      exact foot_xextract ho hx
    · rename_i hnc hne
      split at h
      · rename_i f0 hf0
        cases h
        have h0 := footOf0_ok (R := R) hb hf0
        refine foot_x hx (fun st => ?_) (fun t d env sto k h1 h2 h3 => h0.loc t d env sto k h1 h2 h3) (fun t ht => ?_) (fun env => ?_) (fun t d env h => ?_) (fun h => ?_) rfl
        · obtain ⟨s, hs, hc'⟩ := h0.nf st
          exact ⟨s, hs, fun st' h => ⟨(hc' st' h).1, fun hc2 => (hc' st' h).2 (by simp only [Bool.and_eq_true] at hc2; exact hc2.1)⟩⟩
        · unfold xOn at hx
          unfold xRd at ht
          unfold footOf0 at hf0
          show t ∈ f0.rd
          obtain ⟨dst, op, ty, pos, after, guard⟩ := o
          cases op with
          | call c =>
            obtain ⟨callee, args, ats⟩ := c
            dsimp only at ht hf0 hx
            cases callee with
            | builtin b => cases b <;> dsimp only at hf0 <;> first | (cases hf0; exact ht) | cases hf0
            | value fo =>
              exfalso
              cases hxl : cx.xl <;> rw [hxl] at hx <;> cases hx
            | _ => cases hf0
          | _ =>
            dsimp only at ht hf0
            first
            | (cases hf0; exact ht)
            | (split at hf0 <;> (cases hf0; exact ht))
            | (cases ht; done)
        · show Chg f0.wr env _
          unfold footOf0 at hf0
          unfold xL
          split
          · rename_i t x ho; rw [ho] at hf0; cases hf0; exact .left (fun _ h => h) _
          · rename_i t x y ho; rw [ho] at hf0; cases hf0; exact .left (fun _ h => h) _
          · rename_i args ats ho
            rw [ho] at hf0; cases hf0
            split
            · rename_i x r hx
              exact .left (fun t ht => by show t ∈ tmpsOf args.toList; rw [hx]; simp [tmpsOf, ht]) _
            · exact .refl _ _
          · exact .refl _ _
        · unfold footOf0 at hf0
          have h : t ∉ f0.wr := h
          unfold xL
          split
          · rename_i t x ho; rw [ho] at hf0; cases hf0; exact left_set h
          · rename_i t x y ho; rw [ho] at hf0; cases hf0; exact left_set h
          · rename_i args ats ho
            rw [ho] at hf0; cases hf0
            split
            · rename_i x r hx
              exact left_set (fun ht => h (by show _ ∈ tmpsOf args.toList; rw [hx]; simp [tmpsOf, ht]))
            · rfl
          · rfl
        · simp only [Bool.and_eq_true] at h; exact h.2
      · cases h

end
end Go.Ev

/-! Two steps that may change places. -/
namespace Go.Ev
section
variable {R : Type} {cx : Cx}

def setAll (env : List D) : List (Nat × D) → List D
  | [] => env
  | (t, d) :: r => setAll (env.set t d) r

theorem setAll_set {t : Nat} {d : D} : ∀ (l : List (Nat × D)) (env : List D), (∀ p, p ∈ l → p.1 ≠ t) → setAll (env.set t d) l = (setAll env l).set t d
  | [], _, _ => rfl
  | (s, e) :: r, env, h => by
    have hne : s ≠ t := h (s, e) (List.mem_cons_self ..)
    simp only [setAll]
    rw [List.set_comm _ _ (Ne.symm hne)]
    exact setAll_set r _ (fun p hp => h p (List.mem_cons_of_mem _ hp))

theorem setAll_comm {m : List (Nat × D)} : ∀ (l : List (Nat × D)) (env : List D), (∀ p, p ∈ l → ∀ q, q ∈ m → q.1 ≠ p.1) → setAll (setAll env l) m = setAll (setAll env m) l
  | [], _, _ => rfl
  | (t, d) :: r, env, h => by
    simp only [setAll]
    rw [setAll_comm r _ (fun p hp q hq => h p (List.mem_cons_of_mem _ hp) q hq), setAll_set m env (fun q hq => h (t, d) (List.mem_cons_self ..) q hq)]

theorem chg_setAll {env' : List D} : ∀ (S : List Nat) (env : List D), Chg S env env' → env' = setAll env (S.map fun t => (t, env'.getD t .any))
  | [], env, h => by
    show env' = env
    exact List.ext_getElem? (fun i => h.2 i (by simp))
  | t :: r, env, h => by
    simp only [List.map_cons, setAll]
    refine chg_setAll r _ ⟨by simp [h.1], fun s hs => ?_⟩
    by_cases e : t = s
    · subst e
      rw [List.getElem?_set_self']
      rcases Nat.lt_or_ge t env.length with hl | hl
      · have hl' : t < env'.length := h.1 ▸ hl
        simp [hl, hl', List.getD]
      · rw [List.getElem?_eq_none hl, List.getElem?_eq_none (h.1 ▸ hl)]; rfl
    · rw [List.getElem?_set_ne e]
      exact h.2 s (by simp only [List.mem_cons, not_or]; exact ⟨fun e' => e e'.symm, hs⟩)

structure XFoot (rd wr : List Nat) (calm apart : Bool) (Y : St → (St → Option R) → Option R) : Prop where
  nf : ∀ st, NF wr calm st (Y st)
  loc : ∀ (t : Nat) d env sto k, t ∉ rd → t ∉ wr → Y ⟨env.set t d, sto⟩ k = Y ⟨env, sto⟩ (fun st' => k ⟨st'.env.set t d, st'.sto⟩)
  sf : apart = true → ∀ env sto sto' k, Y ⟨env, sto'⟩ k = Y ⟨env, sto⟩ (fun st' => k ⟨st'.env, sto'⟩)
  ac : apart = true → calm = true

theorem XFoot.locAll {rd wr calm apart} {Y : St → (St → Option R) → Option R} (h : XFoot rd wr calm apart Y) : ∀ (l : List (Nat × D)) (env : List D) (sto : Sto) (k : St → Option R), (∀ p, p ∈ l → p.1 ∉ rd ∧ p.1 ∉ wr) →
    Y ⟨setAll env l, sto⟩ k = Y ⟨env, sto⟩ (fun st' => k ⟨setAll st'.env l, st'.sto⟩)
  | [], _, _, _, _ => rfl
  | (t, d) :: r, env, sto, k, hl => by
    simp only [setAll]
    rw [h.locAll r _ sto k (fun p hp => hl p (List.mem_cons_of_mem _ hp)), h.loc t d env sto _ (hl (t, d) (List.mem_cons_self ..)).1 (hl (t, d) (List.mem_cons_self ..)).2]

theorem XFoot.step {rd wr calm apart} {Y : St → (St → Option R) → Option R} (h : XFoot rd wr calm apart Y) {env : List D} {sto : Sto} {k : St → Option R} {r : R} (hk : Y ⟨env, sto⟩ k = some r) :
    ∃ (l : List (Nat × D)) (sto' : Sto), (∀ p, p ∈ l → p.1 ∈ wr) ∧ (∀ k, Y ⟨env, sto⟩ k = k ⟨setAll env l, sto'⟩) ∧ (calm = true → sto' = sto) := by
  obtain ⟨s, hs, hc⟩ := h.nf ⟨env, sto⟩
  cases s with
  | none => rw [hs] at hk; cases hk
  | some st' =>
    obtain ⟨h1, h2⟩ := hc st' rfl
    refine ⟨wr.map fun t => (t, st'.env.getD t .any), st'.sto, fun p hp => ?_, fun k => ?_, h2⟩
    · obtain ⟨t, ht, rfl⟩ := List.mem_map.1 hp; exact ht
    · rw [hs, ← chg_setAll wr env h1]; rfl

theorem XFoot.swap {rp wp cp ap ro wo co ao} {A B : St → (St → Option R) → Option R} (hA : XFoot rp wp cp ap A) (hB : XFoot ro wo co ao B)
    (h1 : ∀ t, t ∈ wp → t ∉ ro ∧ t ∉ wo) (h2 : ∀ t, t ∈ wo → t ∉ rp ∧ t ∉ wp) (h3 : ap = true ∨ ao = true ∨ (cp = true ∧ co = true)) {st : St} {k : St → Option R} {r : R}
    (h : A st (fun st' => B st' k) = some r) : B st (fun st' => A st' k) = some r := by
  obtain ⟨env, sto⟩ := st
  obtain ⟨m, stoA, hm, hAk, hAc⟩ := hA.step h
  rw [hAk] at h
  rw [hB.locAll m env stoA k (fun p hp => h1 _ (hm p hp))] at h
  have hdis : ∀ (l : List (Nat × D)), (∀ p, p ∈ l → p.1 ∈ wo) → ∀ p, p ∈ l → ∀ q, q ∈ m → q.1 ≠ p.1 := fun l hl p hp q hq e => (h1 _ (hm q hq)).2 (e ▸ hl p hp)
  rcases h3 with hap | hao | ⟨hcp, hco⟩
  · have hsA := hAc (hA.ac hap)
    subst hsA
    obtain ⟨l, stoB, hl, hBk, _⟩ := hB.step h
    rw [hBk] at h ⊢
    rw [hA.locAll l env stoB k (fun p hp => h2 _ (hl p hp)), hA.sf hap env stoA stoB, hAk]
    dsimp only at h ⊢
    rw [setAll_comm l env (hdis l hl)] at h
    exact h
  · rw [hB.sf hao env sto stoA] at h
    obtain ⟨l, stoB, hl, hBk, hBc⟩ := hB.step h
    have hsB := hBc (hB.ac hao)
    subst hsB
    rw [hBk] at h ⊢
    rw [hA.locAll l env stoB k (fun p hp => h2 _ (hl p hp)), hAk]
    dsimp only at h ⊢
    rw [setAll_comm l env (hdis l hl)] at h
    exact h
  · have hsA := hAc hcp
    subst hsA
    obtain ⟨l, stoB, hl, hBk, hBc⟩ := hB.step h
    have hsB := hBc hco
    subst hsB
    rw [hBk] at h ⊢
    rw [hA.locAll l env stoB k (fun p hp => h2 _ (hl p hp)), hAk]
    dsimp only at h ⊢
    rw [setAll_comm l env (hdis l hl)] at h
    exact h

end
end Go.Ev

/-! Regions whose order is open. -/
namespace Go.Ev
section
variable {P : Program} {X : Cfg} {R : Type} {cx : Cx}
variable {hc : FuncId → List D → Sto → (D → Sto → Option R) → Option R}

theorem set_same {env : List D} {d : Nat} {v : D} (h : env.getD d .any = v) (hv : v ≠ .any) : env.set d v = env := by
  have hd : d < env.length := by
    rcases Nat.lt_or_ge d env.length with h' | h'
    · exact h'
    · rw [getD_out h'] at h; exact absurd h.symm hv
  have he : env[d]? = some v := by rw [rd_tmp_get hd, h]
  apply List.ext_getElem?; intro i
  by_cases e : d = i
  · subst e; rw [List.getElem?_set_self hd, he]
  · rw [List.getElem?_set_ne e]

/-- The guard without what it lays. -/
def guardW (d : Nat) (want : Bool) (st : St) (run skip : St → Option R) : Option R :=
  match st.env.getD d .any with
  | .bool b => match b == want with
    | true => run st
    | false => skip st
  | .tup [] => skip st
  | _ => none

theorem guardK_eq {o : Oper} {ops : Array Oper} {j : Nat} {want : Bool} {d : Tmp} (hg : o.guard = some (j, want)) (hd : dstOf ops j = some d) (st : St) (run skip : St → Option R) :
    guardK o ops st run skip = guardW d want st run skip := by
  obtain ⟨env, sto⟩ := st
  unfold guardK guardW
  rw [hg]
  dsimp only
  rw [hd]
  dsimp only
  generalize he : env.getD d .any = z
  cases z <;> first
    | rfl
    | (rename_i cs; cases cs <;> rfl)
    | skip
  rename_i b
  have hs : env.set d (.bool b) = env := set_same he (by intro h; cases h)
  cases b <;> cases want <;> simp only [hs] <;> rfl

theorem NF.skip {S : List Nat} {calm : Bool} {st : St} {o : Option Tmp} (h : ∀ t, t ∈ dstT o → t ∈ S) : NF (R := R) S calm st fun k => k { st with env := put st.env o (.tup []) } :=
  ⟨some _, fun _ => rfl, fun st' e => by cases e; exact ⟨.put h _ _, fun _ => rfl⟩⟩

/-- An operation behind its guard. -/
theorem gOp_foot {ops : Array Oper} {o : Oper} {f : Foot} (h : OpFootN cx hc ops.toList o f) (hac : f.apart = true → f.calm = true) : XFoot (guardT ops o ++ f.rd) (dstT o.dst ++ f.wr) f.calm f.apart (gOp cx hc ops o) := by
  have hd : ∀ t, t ∈ dstT o.dst → t ∈ dstT o.dst ++ f.wr := fun t h => List.mem_append_left _ h
  unfold gOp
  cases hg : o.guard with
  | none =>
    have e : ∀ st (run skip : St → Option R), guardK o ops st run skip = run st := fun st run skip => by unfold guardK; rw [hg]
    refine ⟨fun st => ?_, fun t d env sto k h1 h2 => ?_, fun hap env sto sto' k => ?_, hac⟩
    · simp only [e]; exact h.nf st
    · simp only [e]
      exact h.loc t d env sto k (fun h' => h1 (List.mem_append_right _ h')) (fun h' => h2 (List.mem_append_left _ h')) (fun h' => h2 (List.mem_append_right _ h'))
    · simp only [e]; exact h.sf hap env sto sto' k
  | some jw =>
    obtain ⟨j, want⟩ := jw
    cases hj : dstOf ops j with
    | none =>
      have e : ∀ st (run skip : St → Option R), guardK o ops st run skip = none := fun st run skip => by unfold guardK; rw [hg]; simp only [hj]
      refine ⟨fun st => ?_, fun t d env sto k h1 h2 => ?_, fun hap env sto sto' k => ?_, hac⟩
      · simp only [e]; exact ⟨none, fun _ => rfl, fun _ h => by cases h⟩
      · simp only [e]
      · simp only [e]
    | some d0 =>
      have hgt : guardT ops o = [d0] := by simp [guardT, hg, hj]
      refine ⟨fun st => ?_, fun t d env sto k h1 h2 => ?_, fun hap env sto sto' k => ?_, hac⟩
      · simp only [guardK_eq hg hj, guardW]
        cases hz : st.env.getD d0 .any with
        | bool b =>
          cases hb : (b == want)
          · simp only [hb]; exact .skip hd
          · simp only [hb]; exact h.nf st
        | tup cs =>
          cases cs with
          | nil => exact .skip hd
          | cons c r => exact ⟨none, fun _ => rfl, fun _ h => by cases h⟩
        | _ => exact ⟨none, fun _ => rfl, fun _ h => by cases h⟩
      · have ht0 : t ≠ d0 := fun e => h1 (by rw [hgt, e]; simp)
        have hrd : (env.set t d).getD d0 .any = env.getD d0 .any := by simp [List.getD, List.getElem?_set_ne ht0]
        simp only [guardK_eq hg hj, guardW, hrd]
        have hsk : put (env.set t d) o.dst (.tup []) = (put env o.dst (.tup [])).set t d := put_set (fun h' => h2 (List.mem_append_left _ h'))
        cases hz : env.getD d0 .any with
        | bool b =>
          cases hb : (b == want)
          · simp only [hb, hsk]
          · simp only [hb]; exact h.loc t d env sto k (fun h' => h1 (List.mem_append_right _ h')) (fun h' => h2 (List.mem_append_left _ h')) (fun h' => h2 (List.mem_append_right _ h'))
        | tup cs =>
          cases cs with
          | nil => simp only [hsk]
          | cons c r => rfl
        | _ => rfl
      · simp only [guardK_eq hg hj, guardW]
        cases hz : env.getD d0 .any with
        | bool b =>
          cases hb : (b == want)
          · simp only [hb]
          · simp only [hb]; exact h.sf hap env sto sto' k
        | tup cs =>
          cases cs with
          | nil => rfl
          | cons c r => rfl
        | _ => rfl

theorem foot_ac0 {all : List Oper} {o : Oper} {f : Foot} (h : footOf0 cx all o = some f) : f.apart = true → f.calm = true := by
  unfold footOf0 at h
  split at h <;> first
    | (cases h; intro _; rfl)
    | (cases h; intro h; cases h)
    | (split at h <;> first
        | (cases h; intro _; rfl)
        | (cases h; intro h; cases h)
        | cases h)
    | cases h

theorem foot_ac {all : List Oper} {o : Oper} {f : Foot} (h : footOf cx all o = some f) : f.apart = true → f.calm = true := by
  unfold footOf at h
  split at h
  · exact foot_ac0 h
  · unfold footX at h
    split at h
    · cases h; intro h; cases h
    · cases h; exact id
    · split at h
      · cases h; intro h; cases h
      · cases h

theorem not_hasT {l : List Nat} {t : Nat} (h : hasT l t = false) : t ∉ l := by
  intro hm
  have : hasT l t = true := List.any_eq_true.2 ⟨t, hm, Nat.beq_refl t⟩
  rw [this] at h; cases h

theorem dis_spec {a b : List Nat} (h : dis a b = true) : ∀ t, t ∈ a → t ∉ b := fun t ht => not_hasT (by
  have := List.all_eq_true.1 h t ht
  simpa using this)

theorem load_grow0 {all : List Oper} {o : Oper} {f : Foot} {ty x} (ho : o.op = .load ty x) (hf : footOf0 cx all o = some f) (hcalm : f.calm = true) {env : List D} {sto : Sto} {c : List D} {k0 : St → Option R} {r : R}
    (h : evOp cx hc all o ⟨env, sto⟩ k0 = some r) (k : St → Option R) : evOp cx hc all o ⟨env, sto ++ [c]⟩ k = evOp cx hc all o ⟨env, sto⟩ (fun st' => k ⟨st'.env, sto ++ [c]⟩) := by
  have hs : stealsLd cx o.type all o.dst = false := by
    unfold footOf0 at hf
    rw [ho] at hf
    simp only at hf
    cases hs : stealsLd cx o.type all o.dst
    · rfl
    · rw [hs] at hf; cases hf; cases hcalm
  unfold evOp at h ⊢
  simp only [ho, hs] at h ⊢
  cases hl : look cx.tab ty with
  | none => rfl
  | some e =>
    simp only [hl] at h ⊢
    generalize rd env x = z at h
    cases z <;> first
      | rfl
      | skip
    · rename_i i off
      simp only at h ⊢
      cases hi : rowOf sto i with
      | none => rw [hi] at h; cases h
      | some cs =>
        have hi2 : rowOf (sto ++ [c]) i = some cs := by
          have h0 := (rowOf_spec hi).1
          have hlt := (List.getElem?_eq_some_iff.1 h0).1
          unfold rowOf at hi ⊢
          rw [List.getElem?_append_left hlt]; exact hi
        rw [hi2]
        simp only
        cases Nat.ble (off + e.size) cs.length
        · rfl
        · cases e.agg <;> cases (cs.getD off .any).leaf <;> rfl

theorem load_grow {all : List Oper} {o : Oper} {f : Foot} {ty x} (ho : o.op = .load ty x) (hf : footOf cx all o = some f) (hcalm : f.calm = true) {env : List D} {sto : Sto} {c : List D} {k0 : St → Option R} {r : R}
    (h : evOpN cx hc all o ⟨env, sto⟩ k0 = some r) (k : St → Option R) : evOpN cx hc all o ⟨env, sto ++ [c]⟩ k = evOpN cx hc all o ⟨env, sto⟩ (fun st' => k ⟨st'.env, sto ++ [c]⟩) := by
  unfold footOf at hf
  cases hx : xOn cx o with
  | false =>
    rw [hx] at hf
    rw [evOpN_off hx] at h
    rw [evOpN_off hx, evOpN_off hx]
    exact load_grow0 ho hf hcalm h k
  | true =>
    rw [hx] at hf
    have hf1 : ∃ f0, footOf0 cx all o = some f0 ∧ f0.calm = true := by
      dsimp only at hf
      unfold footX at hf
      split at hf
      · rename_i ho2; rw [ho] at ho2; cases ho2
      · rename_i ho2; rw [ho] at ho2; cases ho2
      · split at hf
        · rename_i f0 hf0
          cases hf
          simp only [Bool.and_eq_true] at hcalm
          exact ⟨f0, hf0, hcalm.1⟩
        · cases hf
    obtain ⟨f0, hf0, hc0⟩ := hf1
    have hon : ∀ (st : St) (k : St → Option R), evOpN cx hc all o st k = match xV cx o (rd st.env) st.sto with
      | some F => F fun d sto => k ⟨put (xL o st.env) o.dst d, sto⟩
      | none => evOp cx hc all o st k := fun st k => by unfold evOpN; rw [hx]; rfl
    rw [hon] at h
    rw [hon, hon]
    dsimp only at h ⊢
    cases hV : xV (R := R) cx o (rd env) sto with
    | none =>
      rw [hV] at h
      have hV2 : xV (R := R) cx o (rd env) (sto ++ [c]) = none := by
        unfold xV at hV ⊢
        simp only [ho] at hV ⊢
        unfold evOp at h
        simp only [ho] at h
        cases hl : look cx.tab ty with
        | none => rfl
        | some e =>
          rw [hl] at h
          dsimp only at h
          generalize rd env x = z at h
          cases z <;> first
            | rfl
            | cases h
      rw [hV2]
      exact load_grow0 ho hf0 hc0 h k
    | some V =>
      rw [hV] at h
      unfold xV at hV
      simp only [ho] at hV
      split at hV
      · rename_i e i ty' kk off hl hz
        split at hV
        · rename_i p ha
          have ha2 : arrAt (sto ++ [c]) i = some p := by
            have h1 := arrAt_some ha
            have hlt := (List.getElem?_eq_some_iff.1 h1).1
            unfold arrAt at ha ⊢
            simp only [List.getD, List.getElem?_append_left hlt] at ha ⊢
            exact ha
          split at hV
          · rename_i hb1 hb2
            cases hV
            have hV2 : xV (R := R) cx o (rd env) (sto ++ [c]) = some fun k => (p.2[kk]?).bind fun x => k (ofCells e.agg ((((cells p.1 x).drop off).take e.size).map D.dup1)) (sto ++ [c]) := by
              unfold xV
              simp only [ho, hl, hz, ha2, hb1, hb2]
            rw [hV2]
          · cases hV
        · cases hV
      · cases hV

theorem alloc_form {all : List Oper} {o : Oper} {ty} (ho : o.op = .alloc ty) {env : List D} {sto : Sto} {k0 : St → Option R} {r : R}
    (h : evOp cx hc all o ⟨env, sto⟩ k0 = some r) : ∃ c, ∀ (env : List D) (k : St → Option R), evOp cx hc all o ⟨env, sto⟩ k = k ⟨put env o.dst (.ptr sto.length 0), sto ++ [c]⟩ := by
  unfold evOp at h
  simp only [ho] at h
  cases hl : look cx.tab ty with
  | none => rw [hl] at h; cases h
  | some e =>
    rw [hl] at h
    obtain ⟨_, _, _, _, _, z⟩ := e
    cases z with
    | nil => cases h
    | cons c cs => exact ⟨c :: cs, fun env k => by unfold evOp; simp only [ho, hl]⟩

theorem grow_swap {ops : Array Oper} (hb : BndOk cx hc) {p o : Oper} {fp : Foot} (hp : footOf cx ops.toList p = some fp) (hg : growB p o = true) (hcalm : fp.calm = true)
    (h2 : ∀ t, t ∈ dstT o.dst → t ∉ guardT ops p ++ fp.rd ∧ t ∉ dstT p.dst ++ fp.wr)
    {st : St} {k : St → Option R} {r : R} (h : gOp cx hc ops p st (fun st' => gOp cx hc ops o st' k) = some r) : gOp cx hc ops o st (fun st' => gOp cx hc ops p st' k) = some r := by
  have hA := gOp_foot (R := R) (footOf_ok hb hp) (foot_ac hp)
  unfold growB at hg
  split at hg
  case h_2 => cases hg
  rename_i ty x ty' hpo hoo
  simp only [Bool.and_eq_true, Option.isNone_iff_eq_none] at hg
  obtain ⟨env, sto⟩ := st
  obtain ⟨m, stoA, hm, hAk, hAc⟩ := hA.step h
  have := hAc hcalm
  subst this
  rw [hAk] at h
  have eo : ∀ st (k : St → Option R), gOp cx hc ops o st k = evOp cx hc ops.toList o st k := fun st k => by
    have hx : xOn cx o = false := by
      unfold xOn
      cases cx.xl
      · rfl
      · simp only [hoo]
    unfold gOp guardK; rw [hg.2]; exact evOpN_off hx st k
  have ep : ∀ st (k : St → Option R), gOp cx hc ops p st k = evOpN cx hc ops.toList p st k := fun st k => by unfold gOp guardK; rw [hg.1]
  rw [eo] at h
  obtain ⟨c, hc'⟩ := alloc_form hoo h
  rw [hc'] at h
  rw [eo, hc']
  have hgrow : ∀ k : St → Option R, gOp cx hc ops p ⟨env, stoA ++ [c]⟩ k = k ⟨setAll env m, stoA ++ [c]⟩ := fun k => by
    have hs : evOpN cx hc ops.toList p ⟨env, stoA⟩ (fun _ => some r) = some r := by rw [← ep, hAk]
    rw [ep, load_grow hpo hp hcalm hs k, ← ep, hAk]
  cases hd : o.dst with
  | none => rw [hd] at h; exact (hgrow k).trans h
  | some t =>
    rw [hd] at h h2
    obtain ⟨h3, h4⟩ := h2 t (by simp [dstT])
    show gOp cx hc ops p ⟨env.set t (.ptr stoA.length 0), stoA ++ [c]⟩ k = some r
    rw [hA.loc t _ env _ k h3 h4, hgrow]
    have e : put (setAll env m) (some t) (.ptr stoA.length 0) = (setAll env m).set t (.ptr stoA.length 0) := rfl
    rw [e] at h
    exact h

theorem comm_swap {ops : Array Oper} (hb : BndOk cx hc) {p o : Oper} {fp fo : Foot} (hp : footOf cx ops.toList p = some fp) (ho : footOf cx ops.toList o = some fo) (h : commB ops p o fp fo = true)
    {st : St} {k : St → Option R} {r : R} (hk : gOp cx hc ops p st (fun st' => gOp cx hc ops o st' k) = some r) : gOp cx hc ops o st (fun st' => gOp cx hc ops p st' k) = some r := by
  unfold commB at h
  simp only [Bool.and_eq_true, Bool.or_eq_true] at h
  obtain ⟨⟨h1, h2⟩, h3⟩ := h
  have d1 := dis_spec h1
  have d2 := dis_spec h2
  rcases h3 with h3 | ⟨h3, h4⟩
  case inr =>
    exact grow_swap hb hp h4 h3 (fun t ht => by
      have := d2 t (List.mem_append_left _ ht)
      simp only [List.mem_append, not_or] at this ⊢
      exact ⟨⟨this.1.1.1, this.1.1.2⟩, this.1.2, this.2⟩) hk
  refine XFoot.swap (gOp_foot (footOf_ok hb hp) (foot_ac hp)) (gOp_foot (footOf_ok hb ho) (foot_ac ho)) (fun t ht => ?_) (fun t ht => ?_) ?_ hk
  · have := d1 t ht
    simp only [List.mem_append, not_or] at this ⊢
    exact ⟨⟨this.1.1.1, this.1.1.2⟩, this.1.2, this.2⟩
  · have := d2 t ht
    simp only [List.mem_append, not_or] at this ⊢
    exact ⟨⟨this.1.1.1, this.1.1.2⟩, this.1.2, this.2⟩
  · rcases h3 with (h3 | h3) | h3
    · exact .inl h3
    · exact .inr (.inl h3)
    · exact .inr (.inr h3)

/-! ### Which operation waits for which -/

theorem edgeMask_spec {acc : List Nat} {p : Nat} : ∀ {es : List Edge}, (edgeMask acc es).testBit p = true → ∃ e ∈ es, Region.binds .any e = true ∧ (e.on = p ∨ (acc.getD e.on 0).testBit p = true)
  | [], h => by simp [edgeMask] at h
  | e :: r, h => by
    unfold edgeMask at h
    split at h
    · rename_i hb
      simp only [Nat.testBit_or, Bool.or_eq_true] at h
      rcases h with (h | h) | h
      · refine ⟨e, List.mem_cons_self .., hb, .inl ?_⟩
        rw [Nat.testBit_two_pow] at h
        simpa using h
      · exact ⟨e, List.mem_cons_self .., hb, .inr h⟩
      · obtain ⟨e', he, hx⟩ := edgeMask_spec h
        exact ⟨e', List.mem_cons_of_mem _ he, hx⟩
    · obtain ⟨e', he, hx⟩ := edgeMask_spec h
      exact ⟨e', List.mem_cons_of_mem _ he, hx⟩

theorem masks_pre : ∀ (l : List Oper) (acc : List Nat), ∃ t, masks acc l = acc ++ t ∧ t.length = l.length
  | [], acc => ⟨[], by simp [masks]⟩
  | o :: r, acc => by
    obtain ⟨t, h1, h2⟩ := masks_pre r (acc ++ [edgeMask acc o.after.toList])
    exact ⟨edgeMask acc o.after.toList :: t, by simp [masks, h1], by simp [h2]⟩

theorem masks_get : ∀ (l : List Oper) (acc : List Nat) (i : Nat) o, l[i]? = some o → (masks acc l)[acc.length + i]? = some (edgeMask ((masks acc l).take (acc.length + i)) o.after.toList)
  | [], acc, i, o, h => by simp at h
  | o0 :: r, acc, 0, o, h => by
    simp at h; subst h
    simp only [masks]
    obtain ⟨t, h1, _⟩ := masks_pre r (acc ++ [edgeMask acc o0.after.toList])
    rw [h1]; simp
  | o0 :: r, acc, i + 1, o, h => by
    simp only [masks]
    have := masks_get r (acc ++ [edgeMask acc o0.after.toList]) i o (by simpa using h)
    simp only [List.length_append, List.length_singleton] at this
    rw [show acc.length + 1 + i = acc.length + (i + 1) by omega] at this
    exact this

/-- What the check says. -/
structure DrawOk (cx : Cx) (ops : Array Oper) : Prop where
  foot : ∀ (i : Nat) o, ops[i]? = some o → ∃ fo, footOf cx ops.toList o = some fo
  topo : ∀ (i : Nat) o, ops[i]? = some o → ∀ e ∈ o.after, Region.binds .any e = true → e.on < i
  row : ∀ (i p : Nat) o po fo fp, ops[i]? = some o → p < i → ops[p]? = some po → footOf cx ops.toList o = some fo → footOf cx ops.toList po = some fp →
    ((masks [] ops.toList).getD i 0).testBit p = true ∨ commB ops po o fp fo = true

theorem rowB_get {ops : Array Oper} {o : Oper} {fo : Foot} {m : Nat} : ∀ {l : List (Oper × Option Foot)} {p0 : Nat}, rowB ops o fo m p0 l = true → ∀ (j : Nat) po fpo, l[j]? = some (po, fpo) → ∃ fp, fpo = some fp ∧ (m.testBit (p0 + j) = true ∨ commB ops po o fp fo = true)
  | [], p0, _, j, po, fpo, h => by simp at h
  | (po0, some fp0) :: r, p0, h, j, po, fpo, hj => by
    simp only [rowB, Bool.and_eq_true, Bool.or_eq_true] at h
    cases j with
    | zero => simp at hj; obtain ⟨rfl, rfl⟩ := hj; exact ⟨fp0, rfl, h.1⟩
    | succ j =>
      obtain ⟨fp, h1, h2⟩ := rowB_get h.2 j po fpo (by simpa using hj)
      exact ⟨fp, h1, by rwa [show p0 + (j + 1) = p0 + 1 + j by omega]⟩
  | (_, none) :: r, p0, h, j, po, fpo, hj => by simp [rowB] at h

theorem rowsB_get {ops : Array Oper} {fs : List (Oper × Option Foot)} : ∀ {l : List (Oper × Option Foot)} {ms : List Nat} {i0 : Nat}, rowsB ops fs i0 l ms = true → ∀ (j : Nat) o fo', l[j]? = some (o, fo') →
    ∃ fo m, fo' = some fo ∧ ms[j]? = some m ∧ (o.after.toList.all fun e => !(Region.binds .any e) || Nat.blt e.on (i0 + j)) = true ∧ rowB ops o fo m 0 (fs.take (i0 + j)) = true
  | [], ms, i0, _, j, o, fo', h => by simp at h
  | (o0, some fo0) :: r, [], i0, h, j, o, fo', hj => by simp [rowsB] at h
  | (o0, some fo0) :: r, m :: ms, i0, h, j, o, fo', hj => by
    simp only [rowsB, Bool.and_eq_true] at h
    cases j with
    | zero => simp at hj; obtain ⟨rfl, rfl⟩ := hj; exact ⟨fo0, m, rfl, rfl, h.1, h.2.1⟩
    | succ j =>
      obtain ⟨fo, m', h1, h2, h3, h4⟩ := rowsB_get h.2.2 j o fo' (by simpa using hj)
      rw [show i0 + 1 + j = i0 + (j + 1) by omega] at h3 h4
      exact ⟨fo, m', h1, by simpa using h2, h3, h4⟩
  | (_, none) :: r, ms, i0, h, j, o, fo', hj => by cases ms <;> simp [rowsB] at h

theorem okDraw_spec {ops : Array Oper} (h : okDraw cx ops = true) : DrawOk cx ops := by
  unfold okDraw at h
  have get : ∀ (i : Nat) o, ops[i]? = some o → (ops.toList.map fun o => (o, footOf cx ops.toList o))[i]? = some (o, footOf cx ops.toList o) := by
    intro i o hi; simp [hi]
  refine ⟨fun i o hi => ?_, fun i o hi e he hb => ?_, fun i p o po fo fp hi hp hpo hfo hfp => ?_⟩
  · obtain ⟨fo, _, h1, _⟩ := rowsB_get h i o _ (get i o hi)
    exact ⟨fo, h1⟩
  · obtain ⟨fo, _, _, _, h3, _⟩ := rowsB_get h i o _ (get i o hi)
    have := List.all_eq_true.1 h3 e (Array.mem_toList_iff.2 he)
    simp only [hb, Bool.not_true, Bool.false_or, Nat.zero_add] at this
    exact Nat.le_of_ble_eq_true this
  · obtain ⟨fo', m, h1, h2, _, h4⟩ := rowsB_get h i o _ (get i o hi)
    rw [hfo] at h1; cases h1
    have hpt : ((ops.toList.map fun o => (o, footOf cx ops.toList o)).take (0 + i))[p]? = some (po, footOf cx ops.toList po) := by
      rw [List.getElem?_take, if_pos (by omega)]; exact get p po hpo
    obtain ⟨fp', h5, h6⟩ := rowB_get h4 p po _ hpt
    rw [hfp] at h5; cases h5
    rw [Nat.zero_add] at h6
    rcases h6 with h6 | h6
    · left; simp only [List.getD, h2]; exact h6
    · exact .inr h6

/-! ### All orders -/

/-- Operations by their numbers, one after another. -/
def seqI (cx : Cx) (hc : FuncId → List D → Sto → (D → Sto → Option R) → Option R) (ops : Array Oper) : List Nat → St → (St → Option R) → Option R
  | [], st, k => k st
  | i :: r, st, k => match ops[i]? with
    | some o => gOp cx hc ops o st fun st' => seqI cx hc ops r st' k
    | none => seqI cx hc ops r st k

theorem evOps_seqI {ops : Array Oper} {k : St → Option R} : ∀ (l : List Oper) (n : Nat) (st : St), (∀ (j : Nat), ops[n + j]? = l[j]?) → evOps cx hc ops l st k = seqI cx hc ops (List.range' n l.length) st k
  | [], n, st, _ => rfl
  | o :: r, n, st, h => by
    have h0 : ops[n]? = some o := by simpa using h 0
    have ih : ∀ st, evOps cx hc ops r st k = seqI cx hc ops (List.range' (n + 1) r.length) st k := fun st => evOps_seqI r (n + 1) st (fun j => by
      have := h (j + 1)
      rw [show n + (j + 1) = n + 1 + j by omega] at this
      simpa using this)
    simp only [evOps, List.length_cons, List.range'_succ, seqI, h0, ih]

theorem gOp_some {ops : Array Oper} {o : Oper} {f : Foot} (hb : BndOk cx hc) (ho : footOf cx ops.toList o = some f) {st : St} {k : St → Option R} {r : R} (h : gOp cx hc ops o st k = some r) :
    ∃ st', k st' = some r ∧ ∀ k, gOp cx hc ops o st k = k st' := by
  obtain ⟨s, hs, _⟩ := (gOp_foot (footOf_ok hb ho) (foot_ac ho)).nf st
  cases s with
  | none => rw [hs] at h; cases h
  | some st' => rw [hs] at h; exact ⟨st', h, fun k => hs k⟩

theorem pull {ops : Array Oper} (hb : BndOk cx hc) {i : Nat} {o : Oper} {fo : Foot} (hi : ops[i]? = some o) (ho : footOf cx ops.toList o = some fo) {post : List Nat} {k : St → Option R} {r : R} :
    ∀ (pre : List Nat), (∀ p, p ∈ pre → ∀ po, ops[p]? = some po → ∃ fp, footOf cx ops.toList po = some fp ∧ commB ops po o fp fo = true) → ∀ st, seqI cx hc ops (pre ++ i :: post) st k = some r →
      gOp cx hc ops o st (fun st' => seqI cx hc ops (pre ++ post) st' k) = some r
  | [], _, st, h => by simpa [seqI, hi] using h
  | p :: pre, hp, st, h => by
    have hp' := fun q hq => hp q (List.mem_cons_of_mem _ hq)
    simp only [List.cons_append, seqI] at h ⊢
    cases hpo : ops[p]? with
    | none =>
      simp only [hpo] at h ⊢
      exact pull hb hi ho pre hp' st h
    | some po =>
      simp only [hpo] at h ⊢
      obtain ⟨fp, hfp, hcm⟩ := hp p (List.mem_cons_self ..) po hpo
      obtain ⟨st1, h1, h2⟩ := gOp_some hb hfp h
      have h3 := pull hb hi ho pre hp' st1 h1
      refine comm_swap hb hfp ho hcm ?_
      rw [h2]
      exact h3

def rem (n : Nat) (listed : Array Bool) : List Nat := (List.range n).filter fun i => !listed.getD i true

theorem mem_rem {n i : Nat} {listed : Array Bool} : i ∈ rem n listed ↔ i < n ∧ listed.getD i true = false := by
  simp [rem]

theorem rem_split {n i : Nat} {listed : Array Bool} (hi : i < n) (hl : listed.getD i true = false) (hs : listed.size = n) :
    ∃ pre post, rem n listed = pre ++ i :: post ∧ rem n (listed.setIfInBounds i true) = pre ++ post ∧ ∀ p, p ∈ pre → p < i ∧ listed.getD p true = false := by
  obtain ⟨m, rfl⟩ : ∃ m, n = i + (1 + m) := ⟨n - i - 1, by omega⟩
  let fl : Nat → Bool := fun i => !listed.getD i true
  have hr : List.range (i + (1 + m)) = List.range i ++ i :: (List.range m).map (fun x => i + (1 + x)) := by
    rw [List.range_add, List.range_add]
    simp [List.map_map, Function.comp_def]
  refine ⟨(List.range i).filter fl, ((List.range m).map (fun x => i + (1 + x))).filter fl, ?_, ?_, fun p hp => ?_⟩
  · unfold rem
    rw [hr, List.filter_append, List.filter_cons]
    simp only [hl, Bool.not_false, if_true]
    rfl
  · unfold rem
    rw [hr, List.filter_append, List.filter_cons]
    have h1 : (!(listed.setIfInBounds i true).getD i true) = false := by
      have : i < listed.size := by omega
      simp [this]
    rw [h1]
    simp only [Bool.false_eq_true, if_false]
    congr 1
    · refine List.filter_congr (fun x hx => ?_)
      have : i ≠ x := by have := List.mem_range.1 hx; omega
      simp only [fl, getD_set_ne true this]
    · refine List.filter_congr (fun x hx => ?_)
      obtain ⟨y, _, rfl⟩ := List.mem_map.1 hx
      have : i ≠ i + (1 + y) := by omega
      simp only [fl, getD_set_ne true this]
  · simp only [List.mem_filter, List.mem_range, fl, Bool.not_eq_true'] at hp
    exact hp

def Closed (ops : Array Oper) (listed : Array Bool) : Prop :=
  ∀ (i : Nat) o, ops[i]? = some o → listed.getD i false = true → ∀ e ∈ o.after, Region.binds .any e = true → listed.getD e.on false = true

theorem anc_listed {ops : Array Oper} {listed : Array Bool} (hcl : Closed ops listed) : ∀ (i : Nat) o, ops[i]? = some o → (∀ e ∈ o.after, Region.binds .any e = true → listed.getD e.on false = true) →
    ∀ p, ((masks [] ops.toList).getD i 0).testBit p = true → listed.getD p false = true := by
  intro i
  induction i using Nat.strongRecOn with
  | _ i ih =>
    intro o hi hready p hp
    have hm := masks_get ops.toList [] i o (by simpa using hi)
    simp only [List.length_nil, Nat.zero_add] at hm
    rw [List.getD, hm, Option.getD_some] at hp
    obtain ⟨e, he, hb, h⟩ := edgeMask_spec hp
    have hle := hready e (Array.mem_toList_iff.1 he) hb
    rcases h with h | h
    · exact h ▸ hle
    · have hlt : e.on < i := by
        rcases Nat.lt_or_ge e.on i with h' | h'
        · exact h'
        · exfalso
          rw [List.getD, List.getElem?_eq_none (by simp only [List.length_take]; omega)] at h
          simp at h
      rw [List.getD, List.getElem?_take, if_pos hlt] at h
      cases ho : ops[e.on]? with
      | none =>
        exfalso
        have h1 : i < ops.size := (Array.getElem?_eq_some_iff.1 hi).1
        have h2 : ops.size ≤ e.on := by simpa using ho
        omega
      | some oe => exact ih e.on hlt oe ho (hcl e.on oe ho hle) p h

theorem any_sound (hcx : CxOk P X cx) (hok : HcOk P X hc) (hb : BndOk cx hc) {ops : Array Oper} (hd : DrawOk cx ops) {Q : Exit → Act → World → Prop} {k : St → Option R} {r : R} {g0 : Gh} {w0 : World}
    (hq : ∀ a' w' g' env' sto', k ⟨env', sto'⟩ = some r → Sim X g' w' env' a'.tmps.toList sto' → Ext g0 w0 g' w' → a'.defers = [] → Q .normal a' w') :
    ∀ (fuel : Nat) (listed : Array Bool) (env : List D) (sto : Sto) (a : Act) (w : World) (g : Gh), Closed ops listed → listed.size = ops.size → (rem ops.size listed).length ≤ fuel → seqI cx hc ops (rem ops.size listed) ⟨env, sto⟩ k = some r →
      Sim X g w env a.tmps.toList sto → Ext g0 w0 g w → a.defers = [] → wpAny P .any ops Q fuel listed a w := by
  have done : ∀ (listed : Array Bool) (env : List D) (sto : Sto) (a : Act) (w : World) (g : Gh), listed.size = ops.size → Region.ready .any ops listed = [] → seqI cx hc ops (rem ops.size listed) ⟨env, sto⟩ k = some r →
      Sim X g w env a.tmps.toList sto → Ext g0 w0 g w → a.defers = [] → Q .normal a w := by
    intro listed env sto a w g hsz hr h hs e hdf
    cases hrem : rem ops.size listed with
    | nil => rw [hrem] at h; exact hq _ _ _ _ _ h hs e hdf
    | cons i rest =>
      exfalso
      -- the least number that is left may come up
      have hi := mem_rem.1 (show i ∈ rem ops.size listed by rw [hrem]; exact List.mem_cons_self ..)
      have hmin : ∀ j, j < i → listed.getD j false = true := by
        intro j hj
        cases hlj : listed.getD j true with
        | true =>
          have : j < listed.size := by omega
          simp only [Array.getD, this, dif_pos] at hlj ⊢
          exact hlj
        | false =>
          exfalso
          obtain ⟨pre, post, h1, _, h3⟩ := rem_split hi.1 hi.2 hsz
          have hjm : j ∈ rem ops.size listed := mem_rem.2 ⟨by omega, hlj⟩
          rw [h1] at hrem
          cases pre with
          | cons p pre =>
            simp only [List.cons_append, List.cons.injEq] at hrem
            have := (h3 p (List.mem_cons_self ..)).1
            omega
          | nil =>
            have hsorted : (rem ops.size listed).Pairwise (· < ·) := List.Pairwise.filter _ List.pairwise_lt_range
            rw [h1] at hjm hsorted
            simp only [List.nil_append, List.mem_cons] at hjm hsorted
            rcases hjm with rfl | hjm
            · omega
            · have := (List.pairwise_cons.1 hsorted).1 j hjm; omega
      have hio : ops[i]? = some ops[i] := by simp [hi.1]
      have : i ∈ Region.ready .any ops listed := mem_ready.2 ⟨hi.2, ops[i], hio, fun e he hbd => hmin e.on (hd.topo i _ hio e he hbd)⟩
      rw [hr] at this; cases this
  intro fuel
  induction fuel with
  | zero =>
    intro listed env sto a w g hcl hsz hf h hs e hdf
    have h0 : rem ops.size listed = [] := List.eq_nil_of_length_eq_zero (by omega)
    have hr : Region.ready .any ops listed = [] := by
      cases hr : Region.ready .any ops listed with
      | nil => rfl
      | cons i rest =>
        have hi : i ∈ Region.ready .any ops listed := by rw [hr]; exact List.mem_cons_self ..
        obtain ⟨h1, o, ho, _⟩ := mem_ready.1 hi
        have : i ∈ rem ops.size listed := mem_rem.2 ⟨(Array.getElem?_eq_some_iff.1 ho).1, h1⟩
        rw [h0] at this; cases this
    exact ⟨hr, done listed env sto a w g hsz hr h hs e hdf⟩
  | succ fuel ih =>
    intro listed env sto a w g hcl hsz hf h hs e hdf
    refine ⟨fun hr => done listed env sto a w g hsz hr h hs e hdf, fun i hi => ?_⟩
    obtain ⟨h1, o, ho, hedges⟩ := mem_ready.1 hi
    have hlt : i < ops.size := (Array.getElem?_eq_some_iff.1 ho).1
    obtain ⟨pre, post, hr1, hr2, hpre⟩ := rem_split hlt h1 hsz
    obtain ⟨fo, hfo⟩ := hd.foot i o ho
    have hanc := anc_listed hcl i o ho hedges
    rw [hr1] at h hf
    have hp := pull hb ho hfo pre (fun p hp po hpo => by
      obtain ⟨fp, hfp⟩ := hd.foot p po hpo
      obtain ⟨hpi, hpl⟩ := hpre p hp
      rcases hd.row i p o po fo fp ho hpi hpo hfo hfp with hx | hx
      · exfalso
        have h5 := hanc p hx
        have : p < listed.size := by omega
        simp only [Array.getD, this, dif_pos] at h5 hpl
        rw [h5] at hpl; cases hpl
      · exact ⟨fp, hfp, hx⟩) _ h
    unfold wpOp
    rw [ho]
    refine gOp_sound hcx hok hp hs hdf (fun a' w' g' env' sto' hk hs' he hd' => ?_)
    refine ih (listed.setIfInBounds i true) env' sto' a' w' g' ?_ (by simp [hsz]) (by rw [hr2]; simp at hf ⊢; omega) (by rw [hr2]; exact hk) hs' (e.trans he) hd'
    intro j oj hoj hlj e' he' hbd
    by_cases hij : i = j
    · subst hij
      rw [ho] at hoj; cases hoj
      exact getD_set_true (hedges e' he' hbd)
    · rw [getD_set_ne false hij] at hlj
      exact getD_set_true (hcl j oj hoj hlj e' he' hbd)

end
end Go.Ev
