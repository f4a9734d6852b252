/-
  The statement DiskCuts of the program is proved: for every input that the row speaks of, the law answers true.
  Conditions: those that the statement's row prints, and no other. This text: an evaluator of the model's code over plain values, and that it is sound (part 2).
-/
import Derived.Test.YtkeejnlicagjiaaEvA
import Derived.Laws.IdiomCopy
import Derived.Deep.MidRow
import Derived.WideLaws
import Derived.Lib.Strings
import Derived.OwnWalk
import Derived.Laws.BytesString
import Derived.Lib.ConvBytes
set_option linter.unusedVariables false
set_option linter.unusedSimpArgs false
/-! Moves of what is owned; how one state goes over into another one. -/
namespace Go.Ev

structure Ext (g : Gh) (w : World) (g' : Gh) (w' : World) : Prop where
  size : w.heap.size ≤ w'.heap.size
  os : w'.os = w.os
  tape : w'.tape = w.tape
  output : w'.output = w.output
  blk : ∀ b, b < w.heap.size → g.κ b = none → w'.heap[b]? = w.heap[b]?
  cell : ∀ b o, o < g.G b → w'.cell? ⟨b, o, none⟩ = w.cell? ⟨b, o, none⟩
  gmono : ∀ b, g.G b ≤ g'.G b
  gsame : ∀ b, b < w.heap.size → g.κ b = none → g'.G b = g.G b
  kdom : ∀ b, b < w.heap.size → g.κ b = none → g'.κ b = none
  φ : ∀ (i : Nat) b, g.φ[i]? = some b → g'.φ[i]? = some b

theorem Ext.refl (g : Gh) (w : World) : Ext g w g w :=
  ⟨Nat.le_refl _, rfl, rfl, rfl, fun _ _ _ => rfl, fun _ _ _ => rfl, fun _ => Nat.le_refl _, fun _ _ _ => rfl, fun _ _ h => h, fun _ _ h => h⟩

theorem Ext.trans {g w g1 w1 g2 w2} (h : Ext g w g1 w1) (k : Ext g1 w1 g2 w2) : Ext g w g2 w2 :=
  ⟨Nat.le_trans h.size k.size, k.os.trans h.os, k.tape.trans h.tape, k.output.trans h.output,
   fun b hb hn => (k.blk b (Nat.lt_of_lt_of_le hb h.size) (h.kdom b hb hn)).trans (h.blk b hb hn),
   fun b o ho => (k.cell b o (Nat.lt_of_lt_of_le ho (h.gmono b))).trans (h.cell b o ho),
   fun b => Nat.le_trans (h.gmono b) (k.gmono b),
   fun b hb hn => (k.gsame b (Nat.lt_of_lt_of_le hb h.size) (h.kdom b hb hn)).trans (h.gsame b hb hn),
   fun b hb hn => k.kdom b (Nat.lt_of_lt_of_le hb h.size) (h.kdom b hb hn),
   fun i b hb => k.φ i b (h.φ i b hb)⟩

/-- The owners' names have changed, nothing else. -/
theorem Ext.names {g : Gh} {w : World} (ρ : Loc → Loc) : Ext g w { g with κ := fun b => (g.κ b).map ρ } w :=
  ⟨Nat.le_refl _, rfl, rfl, rfl, fun _ _ _ => rfl, fun _ _ _ => rfl, fun _ => Nat.le_refl _, fun _ _ _ => rfl, fun b _ h => by simp [h], fun _ _ h => h⟩

theorem Occ.lt {φ w env vals sto} {t j : Nat} {d : D} {v : Value} (h : Occ φ w env vals sto (.env t j) d v) : t < env.length := by
  generalize hℓ : Loc.env t j = ℓ at h
  cases h with
  | leaf hd hv => cases hℓ; exact (List.getElem?_eq_some_iff.1 hd).1
  | agg hd hv hj => cases hℓ; exact (List.getElem?_eq_some_iff.1 hd).1
  | tup hd hv hj => cases hℓ; exact (List.getElem?_eq_some_iff.1 hd).1
  | cell => cases hℓ

def putV (vals : List Value) : Option Tmp → Value → List Value
  | some t, v => vals.set t v
  | none, _ => vals

theorem put_length (env : List D) (dst : Option Tmp) (d : D) : (put env dst d).length = env.length := by cases dst <;> simp [put]
theorem putV_length (vals : List Value) (dst : Option Tmp) (v : Value) : (putV vals dst v).length = vals.length := by cases dst <;> simp [putV]

theorem Act.put_toList (a : Act) (dst : Option Tmp) (v : Value) : (a.put dst v).tmps.toList = putV a.tmps.toList dst v := by
  cases dst with
  | none => rfl
  | some t => simp [Act.put, putV]

theorem Act.put_defers (a : Act) (dst : Option Tmp) (v : Value) : (a.put dst v).defers = a.defers := by cases dst <;> rfl

/-- A destination takes a value that owns nothing. -/
theorem Sim.put {X g w env vals sto} (h : Sim X g w env vals sto) (dst : Option Tmp) (d : D) (v : Value) (hr : RepV X g.φ g.G w d v) (hf : d.free = true) :
    Sim X g w (Ev.put env dst d) (putV vals dst v) sto := by
  cases dst with
  | none => exact h
  | some t => exact h.set t d v hr hf

theorem get_set_eq {α : Type} {l : List α} {t t' : Nat} {x y : α} (h : (l.set t x)[t']? = some y) : (t = t' ∧ t < l.length ∧ y = x) ∨ (t ≠ t' ∧ l[t']? = some y) := by
  by_cases e : t = t'
  · subst e
    by_cases hl : t < l.length
    · rw [List.getElem?_set_self hl] at h; exact .inl ⟨rfl, hl, (Option.some.inj h).symm⟩
    · rw [List.getElem?_eq_none (by simpa using Nat.le_of_not_lt hl)] at h; cases h
  · rw [List.getElem?_set_ne e] at h; exact .inr ⟨e, h⟩

theorem get_set_off {α : Type} {l : List α} {t t' : Nat} {x : α} (h : t ≠ t') : (l.set t x)[t']? = l[t']? := List.getElem?_set_ne h

/-- The value in a slot goes over to another slot, with what it owns. -/
theorem Sim.move {X g w env vals sto} (h : Sim X g w env vals sto) {s : Nat} {d : D} {v : Value} (hs : env[s]? = some d) (hv : vals[s]? = some v) (t : Nat) :
    ∃ g', Sim X g' w ((env.set s d.dup).set t d) (vals.set t v) sto ∧ Ext g w g' w ∧ g'.φ = g.φ ∧ g'.G = g.G := by
  by_cases hst : s = t
  · subst hst
    have e1 : (env.set s d.dup).set s d = env := by
      rw [List.set_set]; apply List.ext_getElem?; intro i
      by_cases e : s = i
      · subst e; rw [List.getElem?_set_self (List.getElem?_eq_some_iff.1 hs).1, hs]
      · rw [List.getElem?_set_ne e]
    have e2 : vals.set s v = vals := by
      apply List.ext_getElem?; intro i
      by_cases e : s = i
      · subst e; rw [List.getElem?_set_self (List.getElem?_eq_some_iff.1 hv).1, hv]
      · rw [List.getElem?_set_ne e]
    exact ⟨g, by rw [e1, e2]; exact h, .refl _ _, rfl, rfl⟩
  · have hsl : s < env.length := (List.getElem?_eq_some_iff.1 hs).1
    refine ⟨_, h.re (fun ℓ => match ℓ with | .env s' j => if s' = s then .env t j else .env s' j | ℓ => ℓ) (fun _ => rfl) (by simp [h.len]) ?_ ?_, .names _, rfl, rfl⟩
    · intro t' d' v' hd' hv'
      rcases get_set_eq hd' with ⟨e, hl, rfl⟩ | ⟨e, hd'⟩
      · rcases get_set_eq hv' with ⟨_, _, rfl⟩ | ⟨e', _⟩
        · exact h.rep s _ _ hs hv
        · exact (e' e).elim
      · rcases get_set_eq hv' with ⟨e', _⟩ | ⟨_, hv'⟩
        · exact (e e').elim
        · rcases get_set_eq hd' with ⟨rfl, _, rfl⟩ | ⟨e2, hd'⟩
          · rw [hv] at hv'; cases hv'; exact (h.rep s _ _ hs hv).dup
          · exact h.rep t' d' v' hd' hv'
    · intro ℓ md ty l a len cap ho hmd
      cases ℓ with
      | env t' j =>
        by_cases e : t = t'
        · subst e
          have hlt := ho.lt
          simp at hlt
          refine ⟨.env s j, by simp, ho.shift ?_ ?_⟩
          · rw [hs, List.getElem?_set_self (by simpa using hlt)]
          · rw [hv, List.getElem?_set_self (by rw [← h.len]; exact hlt)]
        · by_cases e2 : s = t'
          · subst e2
            exact (ho.not_free (d := d.dup) hmd (by rw [List.getElem?_set_ne e, List.getElem?_set_self hsl]) (dup_free d)).elim
          · refine ⟨.env t' j, by simp [Ne.symm e2], ho.shift ?_ ?_⟩
            · rw [List.getElem?_set_ne e, List.getElem?_set_ne e2]
            · rw [List.getElem?_set_ne e]
      | obj i => exact ho.not_obj.elim
      | cell i j => exact ⟨.cell i j, rfl, ho.of_slot (fun _ _ h => by cases h)⟩

/-- The value in a slot is laid behind all slots ('in hand'), with what it owns. -/
theorem Sim.hand {X g w env vals sto} (h : Sim X g w env vals sto) {s : Nat} {d : D} {v : Value} (hs : env[s]? = some d) (hv : vals[s]? = some v) :
    ∃ g', Sim X g' w (env.set s d.dup ++ [d]) (vals ++ [v]) sto ∧ Ext g w g' w ∧ g'.φ = g.φ ∧ g'.G = g.G := by
  have h1 := h.push .any v (.any v) rfl
  have hsl : s < env.length := (List.getElem?_eq_some_iff.1 hs).1
  have hvl : s < vals.length := (List.getElem?_eq_some_iff.1 hv).1
  obtain ⟨g', h2, e, e1, e2⟩ := h1.move (s := s) (d := d) (v := v) (by rw [List.getElem?_append_left hsl]; exact hs) (by rw [List.getElem?_append_left hvl]; exact hv) env.length
  refine ⟨g', ?_, e, e1, e2⟩
  have q1 : ((env ++ [D.any]).set s d.dup).set env.length d = env.set s d.dup ++ [d] := by
    rw [List.set_append_left _ _ hsl, List.set_append_right _ _ (by simp)]; simp
  have q2 : (vals ++ [v]).set env.length v = vals ++ [v] := by
    rw [h.len, List.set_append_right _ _ (Nat.le_refl _)]; simp
  rw [q1, q2] at h2
  exact h2

/-- The last value is laid down. -/
theorem Sim.drop {X g w env vals sto} {d : D} {v : Value} (h : Sim X g w (env ++ [d]) (vals ++ [v]) sto) : Sim X g w env vals sto := by
  have hl : env.length = vals.length := by have := h.len; simpa using this
  refine h.re_id hl ?_ ?_
  · intro t d' v' hd hv
    exact h.rep t d' v' (by rw [List.getElem?_append_left (List.getElem?_eq_some_iff.1 hd).1]; exact hd) (by rw [List.getElem?_append_left (List.getElem?_eq_some_iff.1 hv).1]; exact hv)
  · intro ℓ md ty l a len cap ho hmd
    cases ℓ with
    | env t j =>
      have hlt := ho.lt
      exact ho.shift (List.getElem?_append_left hlt) (List.getElem?_append_left (hl ▸ hlt))
    | obj i => exact ho.not_obj.elim
    | cell i j => exact ho.of_slot (fun _ _ h => by cases h)

/-- From hand into a destination. -/
theorem Sim.lay {X g w env vals sto} {d : D} {v : Value} (h : Sim X g w (env ++ [d]) (vals ++ [v]) sto) (dst : Option Tmp) :
    ∃ g', Sim X g' w (Ev.put env dst d) (putV vals dst v) sto ∧ Ext g w g' w ∧ g'.φ = g.φ ∧ g'.G = g.G := by
  have hl : env.length = vals.length := by have := h.len; simpa using this
  cases dst with
  | none => exact ⟨g, h.drop, .refl _ _, rfl, rfl⟩
  | some t =>
    by_cases ht : t < env.length
    · obtain ⟨g', h1, e, e1, e2⟩ := h.move (s := env.length) (d := d) (v := v) (by simp) (by rw [hl]; simp) t
      refine ⟨g', ?_, e, e1, e2⟩
      have q1 : ((env ++ [d]).set env.length d.dup).set t d = env.set t d ++ [d.dup] := by
        rw [List.set_append_right _ _ (Nat.le_refl _)]; simp [List.set_append_left _ _ ht]
      have q2 : (vals ++ [v]).set t v = vals.set t v ++ [v] := List.set_append_left _ _ (hl ▸ ht)
      rw [q1, q2] at h1
      exact h1.drop
    · refine ⟨g, ?_, .refl _ _, rfl, rfl⟩
      have q1 : Ev.put env (some t) d = env := List.set_eq_of_length_le (Nat.le_of_not_lt ht)
      have q2 : putV vals (some t) v = vals := List.set_eq_of_length_le (hl ▸ Nat.le_of_not_lt ht)
      rw [q1, q2]; exact h.drop

/-- The last value takes another shape that stands for the same, and owns no more. -/
theorem Sim.recast {X g w env vals sto} {d d' : D} {v : Value} (h : Sim X g w (env ++ [d]) (vals ++ [v]) sto) (hr : RepV X g.φ g.G w d' v)
    (ho : ∀ j md ty l u, Occ g.φ w (env ++ [d']) (vals ++ [v]) sto (.env env.length j) (.sl md ty l) u → Occ g.φ w (env ++ [d]) (vals ++ [v]) sto (.env env.length j) (.sl md ty l) u) :
    Sim X g w (env ++ [d']) (vals ++ [v]) sto := by
  have hl : env.length = vals.length := by have := h.len; simpa using this
  refine h.re_id (by simp [hl]) ?_ ?_
  · intro t d0 v0 hd hv
    by_cases e : t < env.length
    · rw [List.getElem?_append_left e] at hd
      rw [List.getElem?_append_left (hl ▸ e)] at hv
      exact h.rep t d0 v0 (by rw [List.getElem?_append_left e]; exact hd) (by rw [List.getElem?_append_left (hl ▸ e)]; exact hv)
    · have : t = env.length := by have := (List.getElem?_eq_some_iff.1 hd).1; simp at this; omega
      subst this
      simp at hd; rw [hl] at hv; simp at hv; subst hd; subst hv; exact hr
  · intro ℓ md ty l a len cap hoc hmd
    cases ℓ with
    | env t j =>
      by_cases e : t < env.length
      · exact hoc.shift (by rw [List.getElem?_append_left e, List.getElem?_append_left e]) rfl
      · have : t = env.length := by have := hoc.lt; simp at this; omega
        subst this
        exact ho j md ty l _ hoc
    | obj i => exact hoc.not_obj.elim
    | cell i j => exact hoc.of_slot (fun _ _ h => by cases h)

end Go.Ev

/-! Steps that change the world. -/
namespace Go.Ev

def upd {α : Type} (f : Nat → α) (b : Nat) (x : α) : Nat → α := fun i => if i = b then x else f i
theorem upd_same {α : Type} (f : Nat → α) (b : Nat) (x : α) : upd f b x b = x := by simp [upd]
theorem upd_ne {α : Type} (f : Nat → α) {b i : Nat} (x : α) (h : i ≠ b) : upd f b x i = f i := by simp [upd, h]

/-- Nobody owns the block any more. -/
def Stale (g : Gh) (n b : Nat) : Prop := g.κ b = none ∨ ∃ t j, g.κ b = some (.env t j) ∧ n ≤ t

theorem Sim.stale_obj {X g w env vals sto} (h : Sim X g w env vals sto) {b0 : Nat} (hst : Stale g env.length b0) {i b : Nat} {cs} (hb : g.φ[i]? = some b) (hi : sto[i]? = some cs) : b ≠ b0 := by
  intro e; subst e
  have := (h.obj i b cs hb hi).k
  rcases hst with h1 | ⟨t, j, h1, _⟩ <;> rw [this] at h1 <;> cases h1

theorem Sim.stale_own {X g w env vals sto} (h : Sim X g w env vals sto) {b0 : Nat} (hst : Stale g env.length b0) {ℓ md t l a len cap}
    (ho : Occ g.φ w env vals sto ℓ (.sl md t l) (.slice (some a) len cap)) (hmd : md.keeps l.length cap) : a.block ≠ b0 := by
  intro e; subst e
  have := (h.own _ _ _ _ _ _ _ ho hmd).k
  rcases hst with h1 | ⟨t', j, h1, hle⟩
  · rw [this] at h1; cases h1
  · rw [this] at h1; cases h1
    have := ho.lt
    omega

/-- The world goes on; block 'b0' is nobody's. -/
theorem Sim.evolveX {X g w env vals sto} (h : Sim X g w env vals sto) {w' : World} {G' : Nat → Nat} (b0 : Nat) (hst : Stale g env.length b0)
    (hG : ∀ b, g.G b ≤ G' b) (hGk : ∀ b ℓ, b ≠ b0 → g.κ b = some ℓ → G' b = g.G b)
    (hp : ∀ b o, o < g.G b → w'.cell? ⟨b, o, none⟩ = w.cell? ⟨b, o, none⟩)
    (hk : ∀ b ℓ, b ≠ b0 → g.κ b = some ℓ → ∀ o, w'.cell? ⟨b, o, none⟩ = w.cell? ⟨b, o, none⟩ ∧ w'.frozen? ⟨b, o, none⟩ = w.frozen? ⟨b, o, none⟩)
    (hs : w.heap.size ≤ w'.heap.size) (hgd : ∀ b, w'.heap.size ≤ b → G' b = 0) :
    Sim X { g with G := G' } w' env vals sto := by
  have hmono : ∀ d v, RepV X g.φ g.G w d v → RepV X g.φ G' w' d v := fun d v hr => hr.mono (fun _ _ h => h) hG hp
  have hocc : ∀ ℓ md t l a len cap, Occ g.φ w' env vals sto ℓ (.sl md t l) (.slice (some a) len cap) → md.keeps l.length cap → Occ g.φ w env vals sto ℓ (.sl md t l) (.slice (some a) len cap) := by
    intro ℓ md t l a len cap ho hmd
    generalize hd0 : (D.sl md t l) = d0 at ho
    generalize hv0 : Value.slice (some a) len cap = v0 at ho
    cases ho with
    | leaf hd hv => subst hd0; subst hv0; exact .leaf hd hv
    | agg hd hv hj he => subst hd0; subst hv0; exact .agg hd hv hj he
    | tup hd hv hj he => subst hd0; subst hv0; exact .tup hd hv hj he
    | cell hi hb hj hv =>
      subst hd0; subst hv0
      exact .cell hi hb hj ((hk _ _ (h.stale_obj hst hb hi) (h.obj _ _ _ hb hi).k _).1.symm.trans hv)
  refine ⟨h.len, fun t d v hd hv => hmono _ _ (h.rep t d v hd hv), h.slen, ?_, ?_, fun b ℓ hb => Nat.lt_of_lt_of_le (h.kdom b ℓ hb) hs, hgd⟩
  · intro i b cs hb hi
    have hne := h.stale_obj hst hb hi
    obtain ⟨k, g0, cell⟩ := h.obj i b cs hb hi
    refine ⟨k, (hGk _ _ hne k).trans g0, fun j c hj => ?_⟩
    obtain ⟨v, hv, hf, hr⟩ := cell j c hj
    exact ⟨v, (hk _ _ hne k j).1.trans hv, (hk _ _ hne k j).2.trans hf, hmono _ _ hr⟩
  · intro ℓ md t l a len cap ho hmd
    have ho' := hocc ℓ md t l a len cap ho hmd
    have hne := h.stale_own hst ho' hmd
    obtain ⟨k, gg, sp⟩ := h.own ℓ md t l a len cap ho' hmd
    refine ⟨k, (hGk _ _ hne k).trans gg, fun j h1 h2 => ?_⟩
    obtain ⟨⟨v, hv⟩, hf⟩ := sp j h1 h2
    exact ⟨⟨v, (hk _ _ hne k _).1.trans hv⟩, (hk _ _ hne k _).2.trans hf⟩

/-- A slice with spare places of its own comes to hand, over a block that is nobody's. -/
theorem Sim.claim {X g w env vals sto} (h : Sim X g w env vals sto) {t : Ty} {l : List t.den} {b off len cap : Nat} (hst : Stale g env.length b) (hlt : b < w.heap.size)
    (hr : RepV X g.φ g.G w (.sl .own t l) (.slice (some ⟨b, off, none⟩) len cap)) (hg : g.G b = off + l.length * t.size)
    (hsp : ∀ j, l.length * t.size ≤ j → j < cap * t.size → (∃ v, w.cell? ⟨b, off + j, none⟩ = some v) ∧ w.frozen? ⟨b, off + j, none⟩ = false) :
    Sim X { g with κ := upd g.κ b (some (.env env.length 0)) } w (env ++ [.sl .own t l]) (vals ++ [.slice (some ⟨b, off, none⟩) len cap]) sto := by
  refine ⟨by simp [h.len], ?_, h.slen, ?_, ?_, ?_, h.gdom⟩
  · intro t' d' v' hd hv
    by_cases e : t' < env.length
    · rw [List.getElem?_append_left e] at hd
      rw [List.getElem?_append_left (h.len ▸ e)] at hv
      exact h.rep t' d' v' hd hv
    · have : t' = env.length := by have := (List.getElem?_eq_some_iff.1 hd).1; simp at this; omega
      subst this
      simp at hd; rw [h.len] at hv; simp at hv; subst hd; subst hv; exact hr
  · intro i b' cs hb hi
    obtain ⟨k, g0, cell⟩ := h.obj i b' cs hb hi
    exact ⟨(upd_ne g.κ _ (h.stale_obj hst hb hi)).trans k, g0, cell⟩
  · intro ℓ md ty l' a len' cap' ho hmd
    cases ℓ with
    | env t' j =>
      by_cases e : t' < env.length
      · have ho' : Occ g.φ w env vals sto (.env t' j) (.sl md ty l') (.slice (some a) len' cap') :=
          ho.shift (List.getElem?_append_left e).symm (List.getElem?_append_left (h.len ▸ e)).symm
        obtain ⟨k, gg, sp⟩ := h.own _ _ _ _ _ _ _ ho' hmd
        exact ⟨(upd_ne g.κ _ (h.stale_own hst ho' hmd)).trans k, gg, sp⟩
      · have ht : t' = env.length := by have := ho.lt; simp at this; omega
        subst ht
        generalize hℓ : Loc.env env.length j = ℓ at ho
        generalize hx : D.sl md ty l' = x at ho
        generalize hy : Value.slice (some a) len' cap' = y at ho
        cases ho with
        | leaf hd hv =>
          cases hℓ
          simp at hd; rw [h.len] at hv; simp at hv
          subst hd; cases hx; subst hv; cases hy
          exact ⟨by simp [upd], hg, hsp⟩
        | agg hd hv hj he => cases hℓ; simp at hd
        | tup hd hv hj he => cases hℓ; simp at hd
        | cell => cases hℓ
    | obj i => exact ho.not_obj.elim
    | cell i j =>
      have ho' : Occ g.φ w env vals sto (.cell i j) (.sl md ty l') (.slice (some a) len' cap') := ho.of_slot (fun _ _ h => by cases h)
      obtain ⟨k, gg, sp⟩ := h.own _ _ _ _ _ _ _ ho' hmd
      exact ⟨(upd_ne g.κ _ (h.stale_own hst ho' hmd)).trans k, gg, sp⟩
  · intro b' ℓ hb
    by_cases e : b' = b
    · subst e; exact hlt
    · exact h.kdom b' ℓ (by simpa [upd, e] using hb)

/-- A world with the same heap, streams and tape. -/
structure Alike (w w' : World) : Prop where
  heap : w'.heap = w.heap
  os : w'.os = w.os
  tape : w'.tape = w.tape
  output : w'.output = w.output

theorem Alike.refl (w : World) : Alike w w := ⟨rfl, rfl, rfl, rfl⟩
theorem Alike.cell {w w' : World} (h : Alike w w') (a : Addr) : w'.cell? a = w.cell? a := by simp [World.cell?, h.heap]
theorem Alike.frozen {w w' : World} (h : Alike w w') (a : Addr) : w'.frozen? a = w.frozen? a := by simp [World.frozen?, h.heap]

theorem Sim.alike {X g w env vals sto} (h : Sim X g w env vals sto) {w' : World} (a : Alike w w') : Sim X g w' env vals sto :=
  h.evolve (G' := g.G) (fun _ => Nat.le_refl _) (fun _ _ _ => rfl) (fun _ _ _ => a.cell _) (fun _ _ _ _ => ⟨a.cell _, a.frozen _⟩) (by rw [a.heap]; exact Nat.le_refl _)
    (fun b hb => h.gdom b (by rw [a.heap] at hb; exact hb))

theorem Ext.alike {w w' : World} (g : Gh) (a : Alike w w') : Ext g w g w' :=
  ⟨by rw [a.heap]; exact Nat.le_refl _, a.os, a.tape, a.output, fun _ _ _ => by rw [a.heap], fun _ _ _ => a.cell _, fun _ => Nat.le_refl _, fun _ _ _ => rfl, fun _ _ h => h, fun _ _ h => h⟩

theorem Alike.drew (w : World) : Alike w w.drew := ⟨rfl, rfl, rfl, rfl⟩

/-- A new block, of which the first n cells are promised. -/
theorem Sim.newBlock {X g w env vals sto} (h : Sim X g w env vals sto) (o : Obj) (n : Nat) :
    Sim X { g with G := upd g.G w.heap.size n } (w.alloc o) env vals sto ∧ Ext g w { g with G := upd g.G w.heap.size n } (w.alloc o) ∧ g.κ w.heap.size = none := by
  have hκ : g.κ w.heap.size = none := by
    cases hk : g.κ w.heap.size with
    | none => rfl
    | some ℓ => exact absurd (h.kdom _ _ hk) (Nat.lt_irrefl _)
  have hcell : ∀ b o', b < w.heap.size → (w.alloc o).cell? ⟨b, o', none⟩ = w.cell? ⟨b, o', none⟩ := fun b o' hb => World.cell?_alloc_lt w o ⟨b, o', none⟩ hb
  have hprom : ∀ b o', o' < g.G b → (w.alloc o).cell? ⟨b, o', none⟩ = w.cell? ⟨b, o', none⟩ := fun b o' ho => by
    refine hcell b o' ?_
    rcases Nat.lt_or_ge b w.heap.size with h' | h'
    · exact h'
    · rw [h.gdom b h'] at ho; omega
  have hG : ∀ b, g.G b ≤ upd g.G w.heap.size n b := fun b => by
    by_cases e : b = w.heap.size
    · subst e; rw [upd_same, h.gdom _ (Nat.le_refl _)]; omega
    · rw [upd_ne _ _ e]; exact Nat.le_refl _
  refine ⟨h.evolve hG ?_ hprom ?_ (by simp) ?_, ⟨by simp, rfl, rfl, rfl, ?_, hprom, hG, ?_, fun b _ h => h, fun _ _ h => h⟩, hκ⟩
  · intro b ℓ hb; exact upd_ne _ _ (by intro e; subst e; rw [hκ] at hb; cases hb)
  · intro b ℓ hb o'
    have hlt := h.kdom b ℓ hb
    exact ⟨hcell b o' hlt, World.frozen?_alloc_old w o ⟨b, o', none⟩ (Nat.ne_of_lt hlt)⟩
  · intro b hb
    simp at hb
    rw [upd_ne _ _ (by omega)]; exact h.gdom b (by omega)
  · intro b hb _
    show (w.heap.push o)[b]? = _
    rw [Array.getElem?_push, if_neg (Nat.ne_of_lt hb)]
  · intro b hb _; exact upd_ne _ _ (Nat.ne_of_lt hb)

/-- A new slice with spare places of its own. -/
theorem Sim.newOwn {X g w env vals sto} (h : Sim X g w env vals sto) {t : Ty} {l : List t.den} (C : Array Value) (elem : TypeId) (fr : Nat × Nat) (cap : Nat)
    (vs : Nat → Value) (hC : ∀ j, j < l.length * t.size → C[j]? = some (vs j))
    (hr : ∀ (i : Nat) x, l[i]? = some x → ∀ (j : Nat) c, (cells t x)[j]? = some c → RepV X g.φ g.G w c (vs (i * t.size + j)))
    (hlen : l.length ≤ cap) (hmax : cap ≤ 9223372036854775807) (hcap : cap * t.size ≤ C.size) (hfr : fr.2 ≤ fr.1 ∨ C.size ≤ fr.1) :
    ∃ g', Sim X g' (w.alloc (.cells C elem fr)) (env ++ [.sl .own t l]) (vals ++ [.slice (some ⟨w.heap.size, 0, none⟩) l.length cap]) sto ∧ Ext g w g' (w.alloc (.cells C elem fr)) := by
  obtain ⟨h1, e1, hκ⟩ := h.newBlock (.cells C elem fr) (l.length * t.size)
  have hb : (w.alloc (.cells C elem fr)).heap[w.heap.size]? = some (.cells C elem fr) := by
    show (w.heap.push (.cells C elem fr))[w.heap.size]? = _
    rw [Array.getElem?_push, if_pos rfl]
  have hcell : ∀ j, (w.alloc (.cells C elem fr)).cell? ⟨w.heap.size, j, none⟩ = C[j]? := fun j => by unfold World.cell?; rw [hb]; rfl
  have hfz : ∀ j, j < C.size → (w.alloc (.cells C elem fr)).frozen? ⟨w.heap.size, j, none⟩ = false := fun j hj => by
    simp only [World.frozen?, hb]
    rcases hfr with h | h
    · by_cases h1 : fr.1 ≤ j
      · have : ¬ j < fr.2 := by omega
        simp [this]
      · simp [h1]
    · have : ¬ fr.1 ≤ j := by omega
      simp [this]
  have h2 := h1.claim (t := t) (l := l) (b := w.heap.size) (off := 0) (len := l.length) (cap := cap) (.inl hκ) (by simp)
    (.sl vs hlen (by intro h; cases h) hmax (by simp [upd_same]) (fun j hj => by rw [Nat.zero_add, hcell]; exact hC j hj)
      (fun i x hx j c hc => (hr i x hx j c hc).mono (fun _ _ h => h) e1.gmono e1.cell))
    (by simp [upd_same])
    (fun j _ hj => by
      have hlt : j < C.size := by omega
      exact ⟨⟨C[j], by rw [Nat.zero_add, hcell]; simp [hlt]⟩, by rw [Nat.zero_add]; exact hfz j hlt⟩)
  refine ⟨_, h2, ⟨e1.size, rfl, rfl, rfl, e1.blk, e1.cell, e1.gmono, e1.gsame, ?_, fun _ _ h => h⟩⟩
  intro b hb hn
  show upd g.κ w.heap.size _ b = none
  rw [upd_ne _ _ (Nat.ne_of_lt hb)]; exact hn

end Go.Ev

/-! The store: new objects, and what is laid into them; appends in place. -/
namespace Go.Ev

theorem cells_rep {X φ G w} {d : D} {v : Value} (h : RepV X φ G w d v) (hn : d.cells ≠ []) :
    v.cells.size = d.cells.length ∧ ∀ (j : Nat) c, d.cells[j]? = some c → ∃ u, v.cells[j]? = some u ∧ RepV X φ G w c u := by
  have leaf : d.cells = [d] → v.cells = #[v] → v.cells.size = d.cells.length ∧ ∀ (j : Nat) c, d.cells[j]? = some c → ∃ u, v.cells[j]? = some u ∧ RepV X φ G w c u := by
    intro h1 h2
    refine ⟨by rw [h1, h2]; rfl, fun j c hj => ?_⟩
    rw [h1] at hj
    cases j with
    | zero => simp at hj; subst hj; exact ⟨v, by rw [h2]; rfl, h⟩
    | succ j => simp at hj
  cases h with
  | any v => exact absurd rfl hn
  | tup hl hr => exact absurd rfl hn
  | agg hl hr =>
    rename_i cs vs
    refine ⟨hl, fun j c hj => ?_⟩
    have hlt : j < vs.size := by rw [hl]; exact (List.getElem?_eq_some_iff.1 hj).1
    refine ⟨vs.getD j undef, ?_, hr j c hj⟩
    show vs[j]? = _
    simp [Array.getD, hlt]
  | _ => exact leaf rfl rfl

/-- What is owned in the hand, by the place of its cell. -/
theorem Occ.of_cells {φ w env vals sto} {d : D} {v : Value} (hl : env.length = vals.length) {j : Nat} {md : Md} {ty : Ty} {l : List ty.den} {u : Value}
    (hv : d.cells ≠ [] → v.cells.size = d.cells.length) (hc : d.cells[j]? = some (.sl md ty l)) (hu : v.cells[j]? = some u) (hva : ∀ cs, d = .agg cs → ∃ vs, v = .agg vs) (hvl : (∀ cs, d ≠ .agg cs) → v.cells = #[v]) :
    ∃ m, Occ φ w (env ++ [d]) (vals ++ [v]) sto (.env env.length m) (.sl md ty l) u ∧ (m = 0 ∧ j = 0 ∨ m = j + 1) := by
  by_cases ha : ∃ cs, d = .agg cs
  · obtain ⟨cs, rfl⟩ := ha
    obtain ⟨vs, rfl⟩ := hva cs rfl
    refine ⟨j + 1, .agg (cs := cs) (vs := vs) (by simp) (by rw [hl]; simp) hc ?_, .inr rfl⟩
    have : vs[j]? = some u := hu
    simp [Array.getD, (Array.getElem?_eq_some_iff.1 this).1]
    exact (Array.getElem?_eq_some_iff.1 this).2
  · have hna : ∀ cs, d ≠ .agg cs := fun cs e => ha ⟨cs, e⟩
    have hv1 := hvl hna
    have hd : d.cells = [d] := by cases d <;> first | rfl | (exact absurd rfl (hna _)) | (simp [D.cells] at hc)
    rw [hd] at hc
    cases j with
    | zero =>
      simp at hc; rw [hv1] at hu; simp at hu
      exact ⟨0, .leaf (by simp [hc]) (by rw [hl]; simp [hu]), .inl ⟨rfl, rfl⟩⟩
    | succ j => simp at hc

theorem rep_agg {X φ G w} {d : D} {v : Value} (h : RepV X φ G w d v) : (∀ cs, d = .agg cs → ∃ vs, v = .agg vs) := by
  intro cs e; subst e; cases h; exact ⟨_, rfl⟩

theorem rep_leaf {X φ G w} {d : D} {v : Value} (h : RepV X φ G w d v) (hn : d.cells ≠ []) : (∀ cs, d ≠ .agg cs) → v.cells = #[v] := by
  intro hna
  cases h with
  | any v => exact absurd rfl hn
  | tup hl hr => exact absurd rfl hn
  | agg hl hr => exact absurd rfl (hna _)
  | _ => rfl

/-- Where the parts of slot n go: into object i, from 'off' on. -/
def burial (n i off : Nat) : Loc → Loc
  | .env t 0 => if t = n then .cell i off else .env t 0
  | .env t (j + 1) => if t = n then .cell i (off + j) else .env t (j + 1)
  | ℓ => ℓ

theorem burial_other {n i off t j : Nat} (h : t ≠ n) : burial n i off (.env t j) = .env t j := by cases j <;> simp [burial, h]
theorem burial_cell {n i off m j : Nat} (h : m = 0 ∧ j = 0 ∨ m = j + 1) : burial n i off (.env n m) = .cell i (off + j) := by
  rcases h with ⟨rfl, rfl⟩ | rfl <;> simp [burial]

theorem getElem?_snoc {α : Type} {l : List α} {x y : α} {i : Nat} (h : (l ++ [x])[i]? = some y) : (i < l.length ∧ l[i]? = some y) ∨ (i = l.length ∧ y = x) := by
  by_cases e : i < l.length
  · rw [List.getElem?_append_left e] at h; exact .inl ⟨e, h⟩
  · have := (List.getElem?_eq_some_iff.1 h).1
    simp at this
    have e2 : i = l.length := by omega
    subst e2; simp at h; exact .inr ⟨rfl, h.symm⟩

/-- The hand's value becomes an object of the store. -/
theorem Sim.bury {X g w env vals sto} {d : D} {v : Value} (h : Sim X g w (env ++ [d]) (vals ++ [v]) sto) (hn : d.cells ≠ []) (elem : TypeId) :
    ∃ g', Sim X g' (w.alloc (.cells v.cells elem)) (env ++ [.ptr sto.length 0]) (vals ++ [.pointer (some ⟨w.heap.size, 0, none⟩)]) (sto ++ [d.cells]) ∧
      Ext g w g' (w.alloc (.cells v.cells elem)) := by
  have hl : env.length = vals.length := by have := h.len; simpa using this
  have hdv := h.rep env.length d v (by simp) (by rw [hl]; simp)
  obtain ⟨hsz, hcr⟩ := cells_rep hdv hn
  obtain ⟨h1, e1, hκ⟩ := h.newBlock (.cells v.cells elem) 0
  have hG : upd g.G w.heap.size 0 = g.G := by
    funext b; by_cases e : b = w.heap.size
    · subst e; rw [upd_same, h.gdom _ (Nat.le_refl _)]
    · rw [upd_ne _ _ e]
  rw [hG] at h1 e1
  generalize hw1 : w.alloc (.cells v.cells elem) = w1 at *
  have hb : w1.heap[w.heap.size]? = some (.cells v.cells elem) := by
    subst hw1
    show (w.heap.push (.cells v.cells elem))[w.heap.size]? = _
    rw [Array.getElem?_push, if_pos rfl]
  have hcell : ∀ j, w1.cell? ⟨w.heap.size, j, none⟩ = v.cells[j]? := fun j => by unfold World.cell?; rw [hb]; rfl
  have hfz : ∀ j, w1.frozen? ⟨w.heap.size, j, none⟩ = false := fun j => by unfold World.frozen?; rw [hb]; simp
  let g' : Gh := { φ := g.φ ++ [w.heap.size], G := g.G, κ := upd (fun b => (g.κ b).map (burial env.length sto.length 0)) w.heap.size (some (.obj sto.length)) }
  have hκ' : ∀ b, b ≠ w.heap.size → g'.κ b = (g.κ b).map (burial env.length sto.length 0) := fun b e => upd_ne (fun b => (g.κ b).map (burial env.length sto.length 0)) _ e
  have hφ : ∀ (i : Nat) b, g.φ[i]? = some b → (g.φ ++ [w.heap.size])[i]? = some b := fun i b hi => by
    rw [List.getElem?_append_left (List.getElem?_eq_some_iff.1 hi).1]; exact hi
  have hmono : ∀ d v, RepV X g.φ g.G w1 d v → RepV X g'.φ g'.G w1 d v := fun d v hr => hr.mono hφ (fun _ => Nat.le_refl _) (fun _ _ _ => rfl)
  have hne : ∀ b ℓ, g.κ b = some ℓ → b ≠ w.heap.size := fun b ℓ hb e => by subst e; rw [hκ] at hb; cases hb
  have hmain : Sim X g' w1 env vals (sto ++ [d.cells]) := by
    refine ⟨hl, ?_, by simp [g', h.slen], ?_, ?_, ?_, h1.gdom⟩
    · intro t d' v' hd hv
      exact hmono _ _ (h1.rep t d' v' (by rw [List.getElem?_append_left (List.getElem?_eq_some_iff.1 hd).1]; exact hd) (by rw [List.getElem?_append_left (List.getElem?_eq_some_iff.1 hv).1]; exact hv))
    · intro i b cs hbi hi
      rcases getElem?_snoc hi with ⟨hlt, hi⟩ | ⟨rfl, rfl⟩
      · have hbi' : g.φ[i]? = some b := by
          have := h.slen
          rw [List.getElem?_append_left (by omega)] at hbi; exact hbi
        obtain ⟨k, g0, cell⟩ := h1.obj i b cs hbi' hi
        refine ⟨?_, g0, fun j c hj => ?_⟩
        · rw [hκ' b (hne b _ k), show g.κ b = some (.obj i) from k]; rfl
        · obtain ⟨u, hu, hf, hr⟩ := cell j c hj
          exact ⟨u, hu, hf, hmono _ _ hr⟩
      · have hb0 : b = w.heap.size := by
          have e : (g.φ ++ [w.heap.size])[sto.length]? = some w.heap.size := by rw [← h.slen]; simp
          have : (g.φ ++ [w.heap.size])[sto.length]? = some b := hbi
          rw [e] at this; exact (Option.some.inj this).symm
        subst hb0
        refine ⟨by simp [g', upd_same], h.gdom _ (Nat.le_refl _), fun j c hj => ?_⟩
        obtain ⟨u, hu, hr⟩ := hcr j c hj
        exact ⟨u, (hcell j).trans hu, hfz j, hmono _ _ (hr.mono (fun _ _ h => h) e1.gmono e1.cell)⟩
    · intro ℓ md ty l a len cap ho hmd
      cases ℓ with
      | env t j =>
        have hlt := ho.lt
        have ho' : Occ g.φ w1 (env ++ [d]) (vals ++ [v]) sto (.env t j) (.sl md ty l) (.slice (some a) len cap) := by
          have := ho.shift (env' := env ++ [d]) (vals' := vals ++ [v]) (t' := t) (List.getElem?_append_left hlt) (List.getElem?_append_left (hl ▸ hlt))
          generalize hℓ : Loc.env t j = ℓ at this ⊢
          cases this with
          | leaf hd hv => exact .leaf hd hv
          | agg hd hv hj he => exact .agg hd hv hj he
          | tup hd hv hj he => exact .tup hd hv hj he
          | cell => cases hℓ
        obtain ⟨k, gg, sp⟩ := h1.own _ _ _ _ _ _ _ ho' hmd
        refine ⟨?_, gg, sp⟩
        rw [hκ' _ (hne _ _ k), show g.κ a.block = some (.env t j) from k]
        simp [burial_other (Nat.ne_of_lt hlt)]
      | obj i => exact ho.not_obj.elim
      | cell i j =>
        generalize hℓ : Loc.cell i j = ℓ at ho
        generalize hx : D.sl md ty l = x at ho
        generalize hy : Value.slice (some a) len cap = y at ho
        cases ho with
        | leaf => cases hℓ
        | agg => cases hℓ
        | tup => cases hℓ
        | cell hi hbi hj hv =>
          cases hℓ
          rename_i b0 cs0
          rcases getElem?_snoc hi with ⟨hlt, hi⟩ | ⟨rfl, rfl⟩
          · have hbi' : g.φ[i]? = some b0 := by
              have := h.slen
              rw [List.getElem?_append_left (by omega)] at hbi; exact hbi
            subst hx; subst hy
            have ho' : Occ g.φ w1 (env ++ [d]) (vals ++ [v]) sto (.cell i j) (.sl md ty l) (.slice (some a) len cap) := .cell hi hbi' hj hv
            obtain ⟨k, gg, sp⟩ := h1.own _ _ _ _ _ _ _ ho' hmd
            refine ⟨?_, gg, sp⟩
            rw [hκ' _ (hne _ _ k), show g.κ a.block = some (.cell i j) from k]; rfl
          · have hb0 : b0 = w.heap.size := by
              have e : (g.φ ++ [w.heap.size])[sto.length]? = some w.heap.size := by rw [← h.slen]; simp
              have : (g.φ ++ [w.heap.size])[sto.length]? = some b0 := hbi
              rw [e] at this; exact (Option.some.inj this).symm
            subst hb0; subst hx; subst hy
            rw [hcell] at hv
            obtain ⟨m, hm, hmj⟩ := Occ.of_cells (φ := g.φ) (w := w1) (sto := sto) hl (fun _ => hsz) hj hv (rep_agg hdv) (rep_leaf hdv hn)
            obtain ⟨k, gg, sp⟩ := h1.own _ _ _ _ _ _ _ hm hmd
            refine ⟨?_, gg, sp⟩
            rw [hκ' _ (hne _ _ k), show g.κ a.block = some (.env env.length m) from k]
            simp [burial_cell hmj]
    · intro b ℓ hb
      by_cases e : b = w.heap.size
      · subst e; subst hw1; simp
      · have hb' : (g.κ b).map (burial env.length sto.length 0) = some ℓ := by have := hb; simpa [g', upd, e] using this
        cases hk : g.κ b with
        | none => rw [hk] at hb'; cases hb'
        | some ℓ' => exact h1.kdom b ℓ' hk
  refine ⟨g', hmain.push _ _ (.ptr (by simp [g', ← h.slen])) rfl, ⟨e1.size, e1.os, e1.tape, e1.output, e1.blk, e1.cell, fun _ => Nat.le_refl _, fun _ _ _ => rfl, ?_, hφ⟩⟩
  intro b hb hn
  rw [hκ' b (Nat.ne_of_lt hb), hn]; rfl

end Go.Ev

namespace Go.Ev

theorem leaves_get : ∀ {xs : List D}, leaves xs = true → ∀ (j : Nat) c, xs[j]? = some c → c.leaf = true
  | [], _, j, c, h => by simp at h
  | d :: r, h, j, c, hj => by
    unfold leaves at h
    cases hd : d.leaf with
    | false => rw [hd] at h; cases h
    | true =>
      rw [hd] at h
      cases j with
      | zero => simp at hj; exact hj ▸ hd
      | succ j => simp at hj; exact leaves_get h j c hj

theorem fits_spec {xs : List D} {n : Nat} (h : fits xs n = true) : xs.length = n ∧ leaves xs = true ∧ 1 ≤ n := by
  unfold fits at h
  cases h1 : Nat.beq xs.length n with
  | false => rw [h1] at h; cases h
  | true =>
    cases h2 : leaves xs with
    | false => rw [h1, h2] at h; cases h
    | true => rw [h1, h2] at h; exact ⟨Nat.eq_of_beq_eq_true h1, rfl, Nat.le_of_ble_eq_true h⟩

theorem rep_one {X φ G w} {d : D} {v : Value} (h : RepV X φ G w d v) (hl : d.leaf = true) : v.oneCell' = true := by
  cases h with
  | any v => cases hl
  | agg => cases hl
  | tup => cases hl
  | _ => rfl

theorem splice_get_out {cs xs : List D} {off j : Nat} (hle : off + xs.length ≤ cs.length) (h : j < off ∨ off + xs.length ≤ j) : (splice cs off xs)[j]? = cs[j]? := by
  unfold splice
  rcases h with h | h
  · rw [List.append_assoc, List.getElem?_append_left (by simp; omega), List.getElem?_take]; simp [h]
  · rw [List.getElem?_append_right (by simp; omega), List.getElem?_drop]
    congr 1; simp; omega

theorem splice_get_in {cs xs : List D} {off j : Nat} (hle : off + xs.length ≤ cs.length) (h : j < xs.length) : (splice cs off xs)[off + j]? = xs[j]? := by
  unfold splice
  rw [List.append_assoc, List.getElem?_append_right (by simp; omega), List.getElem?_append_left (by simp; omega)]
  congr 1; simp; omega

theorem setCells_heap (b k : Nat) (hk : k ≠ b) : ∀ (ys : List Value) (o : Nat) (w : World), (w.setCells b o ys).heap[k]? = w.heap[k]?
  | [], _, _ => rfl
  | y :: ys, o, w => by
    rw [World.setCells, setCells_heap b k hk ys]
    simp only [World.setCell, Array.getElem?_modify]
    rw [if_neg (fun e => hk e.symm)]

theorem setCells_size (b : Nat) : ∀ (ys : List Value) (o : Nat) (w : World), (w.setCells b o ys).heap.size = w.heap.size
  | [], _, _ => rfl
  | y :: ys, o, w => by rw [World.setCells, setCells_size b ys]; simp

theorem setCells_str (b : Nat) : ∀ (ys : List Value) (o : Nat) (w : World), (w.setCells b o ys).os = w.os ∧ (w.setCells b o ys).tape = w.tape ∧ (w.setCells b o ys).output = w.output
  | [], _, _ => ⟨rfl, rfl, rfl⟩
  | y :: ys, o, w => by rw [World.setCells]; exact setCells_str b ys (o + 1) (w.setCell ⟨b, o, none⟩ y)

/-- The hand's value is laid into an object. -/
theorem Sim.storeIn {X g w env vals sto} {d : D} {v : Value} (h : Sim X g w (env ++ [d]) (vals ++ [v]) sto) {i b off : Nat} {cs : List D} (hi : sto[i]? = some cs) (hb : g.φ[i]? = some b)
    (hn : d.cells ≠ []) (hle : off + d.cells.length ≤ cs.length) :
    ∃ g', Sim X g' (w.setCells b off v.cells.toList) env vals (sto.set i (splice cs off d.cells)) ∧ Ext g w g' (w.setCells b off v.cells.toList) := by
  have hl : env.length = vals.length := by have := h.len; simpa using this
  have hdv := h.rep env.length d v (by simp) (by rw [hl]; simp)
  obtain ⟨hsz, hcr⟩ := cells_rep hdv hn
  have hobj := h.obj i b cs hb hi
  have hylen : v.cells.toList.length = d.cells.length := by simpa using hsz
  have hthere : ∀ j, j < v.cells.toList.length → (w.cell? ⟨b, off + j, none⟩).isSome = true := fun j hj => by
    obtain ⟨u, hu, _⟩ := hobj.cell (off + j) (cs[off + j]'(by omega)) (by simp)
    simp [hu]
  generalize hw' : w.setCells b off v.cells.toList = w'
  have hcin : ∀ j u, v.cells[j]? = some u → w'.cell? ⟨b, off + j, none⟩ = some u := fun j u hu => by
    have hj : j < v.cells.toList.length := by simpa using (Array.getElem?_eq_some_iff.1 hu).1
    subst hw'
    rw [World.cell?_setCells_in b _ off w hthere j hj]
    have := (Array.getElem?_eq_some_iff.1 hu).2
    simpa using this
  have hcout : ∀ b' o, (b' = b → o < off ∨ off + v.cells.toList.length ≤ o) → w'.cell? ⟨b', o, none⟩ = w.cell? ⟨b', o, none⟩ := fun b' o ho => by
    subst hw'
    exact World.cell?_setCells_out b _ off w ⟨b', o, none⟩ (fun h1 _ => ho h1)
  have hfz : ∀ x, w'.frozen? x = w.frozen? x := fun x => by subst hw'; exact World.frozen?_setCells b _ off w x
  have hheap : ∀ k, k ≠ b → w'.heap[k]? = w.heap[k]? := by
    subst hw'
    intro k hk
    exact setCells_heap b k hk _ off w
  have hsize : w'.heap.size = w.heap.size := by
    subst hw'; exact setCells_size b _ off w
  have hstr : w'.os = w.os ∧ w'.tape = w.tape ∧ w'.output = w.output := by subst hw'; exact setCells_str b _ off w
  have hprom : ∀ b' o, o < g.G b' → w'.cell? ⟨b', o, none⟩ = w.cell? ⟨b', o, none⟩ := fun b' o ho => hcout b' o (fun e => by subst e; rw [hobj.g0] at ho; omega)
  let g' : Gh := { g with κ := fun b => (g.κ b).map (burial env.length i off) }
  have hmono : ∀ d v, RepV X g.φ g.G w d v → RepV X g.φ g.G w' d v := fun d v hr => hr.mono (fun _ _ h => h) (fun _ => Nat.le_refl _) hprom
  have hspl : (splice cs off d.cells).length = cs.length := by simp [splice]; omega
  refine ⟨g', ⟨hl, ?_, by simp [g', h.slen], ?_, ?_, ?_, fun b hb => h.gdom b (by rw [hsize] at hb; exact hb)⟩, ?_⟩
  · intro t d' v' hd hv
    exact hmono _ _ (h.rep t d' v' (by rw [List.getElem?_append_left (List.getElem?_eq_some_iff.1 hd).1]; exact hd) (by rw [List.getElem?_append_left (List.getElem?_eq_some_iff.1 hv).1]; exact hv))
  · intro i' b' cs' hb' hi'
    rcases get_set_eq hi' with ⟨rfl, hlt, rfl⟩ | ⟨hne, hi'⟩
    · have e : b' = b := by
        have hb'' : g.φ[i]? = some b' := hb'
        rw [hb] at hb''; exact (Option.some.inj hb'').symm
      subst e
      refine ⟨by show (g.κ b').map _ = _; rw [hobj.k]; rfl, hobj.g0, fun j c hj => ?_⟩
      by_cases hj2 : j < off ∨ off + d.cells.length ≤ j
      · rw [splice_get_out hle hj2] at hj
        obtain ⟨u, hu, hf, hr⟩ := hobj.cell j c hj
        exact ⟨u, (hcout _ _ (fun _ => by rw [hylen]; exact hj2)).trans hu, (hfz _).trans hf, hmono _ _ hr⟩
      · obtain ⟨j', rfl⟩ : ∃ j', j = off + j' := ⟨j - off, by omega⟩
        rw [splice_get_in hle (by omega)] at hj
        obtain ⟨u, hu, hr⟩ := hcr j' c hj
        have hjl := (List.getElem?_eq_some_iff.1 hj).1
        obtain ⟨u0, hu0, hf0, _⟩ := hobj.cell (off + j') (cs[off + j']'(by omega)) (by simp)
        exact ⟨u, hcin j' u hu, (hfz _).trans hf0, hmono _ _ hr⟩
    · obtain ⟨k, g0, cell⟩ := h.obj i' b' cs' hb' hi'
      have hbne : b' ≠ b := by intro e; subst e; rw [hobj.k] at k; cases k; exact hne rfl
      refine ⟨by show (g.κ b').map _ = _; rw [k]; rfl, g0, fun j c hj => ?_⟩
      obtain ⟨u, hu, hf, hr⟩ := cell j c hj
      exact ⟨u, (hcout _ _ (fun e => absurd e hbne)).trans hu, (hfz _).trans hf, hmono _ _ hr⟩
  · intro ℓ md ty l a len cap ho hmd
    have fin : ∀ ℓ0, burial env.length i off ℓ0 = ℓ → Occ g.φ w (env ++ [d]) (vals ++ [v]) sto ℓ0 (.sl md ty l) (.slice (some a) len cap) → Own1 g'.κ g'.G w' ℓ ty.size l.length a cap := by
      intro ℓ0 hℓ ho0
      obtain ⟨k, gg, sp⟩ := h.own _ _ _ _ _ _ _ ho0 hmd
      have hbne : a.block ≠ b := by
        intro e; rw [e, hobj.k] at k
        cases k
        exact ho0.not_obj
      refine ⟨by show (g.κ a.block).map _ = _; rw [k]; exact congrArg some hℓ, gg, fun j h1 h2 => ?_⟩
      obtain ⟨⟨u, hu⟩, hf⟩ := sp j h1 h2
      exact ⟨⟨u, (hcout _ _ (fun e => absurd e hbne)).trans hu⟩, (hfz _).trans hf⟩
    cases ℓ with
    | env t j =>
      have hlt := ho.lt
      refine fin (.env t j) (burial_other (Nat.ne_of_lt hlt)) ?_
      have := ho.shift (env' := env ++ [d]) (vals' := vals ++ [v]) (t' := t) (List.getElem?_append_left hlt) (List.getElem?_append_left (hl ▸ hlt))
      generalize hℓ : Loc.env t j = ℓ at this ⊢
      cases this with
      | leaf hd hv => exact .leaf hd hv
      | agg hd hv hj he => exact .agg hd hv hj he
      | tup hd hv hj he => exact .tup hd hv hj he
      | cell => cases hℓ
    | obj i => exact ho.not_obj.elim
    | cell i' j =>
      generalize hℓ : Loc.cell i' j = ℓ at ho
      generalize hx : D.sl md ty l = x at ho
      generalize hy : Value.slice (some a) len cap = y at ho
      cases ho with
      | leaf => cases hℓ
      | agg => cases hℓ
      | tup => cases hℓ
      | cell hi' hb' hj hv =>
        cases hℓ
        rename_i b' cs'
        subst hx; subst hy
        rcases get_set_eq hi' with ⟨rfl, hlt, rfl⟩ | ⟨hne, hi'⟩
        · have e : b' = b := by
            have hb'' : g.φ[i]? = some b' := hb'
            rw [hb] at hb''; exact (Option.some.inj hb'').symm
          subst e
          by_cases hj2 : j < off ∨ off + d.cells.length ≤ j
          · rw [splice_get_out hle hj2] at hj
            rw [hcout _ _ (fun _ => by rw [hylen]; exact hj2)] at hv
            exact fin (.cell i j) rfl (.cell hi hb hj hv)
          · obtain ⟨j', rfl⟩ : ∃ j', j = off + j' := ⟨j - off, by omega⟩
            rw [splice_get_in hle (by omega)] at hj
            obtain ⟨u, hu, hr⟩ := hcr j' _ hj
            rw [hcin j' u hu] at hv
            cases hv
            obtain ⟨m, hm, hmj⟩ := Occ.of_cells (φ := g.φ) (w := w) (sto := sto) hl (fun _ => hsz) hj hu (rep_agg hdv) (rep_leaf hdv hn)
            exact fin (.env env.length m) (burial_cell hmj) hm
        · have hbne : b' ≠ b := by
            intro e; subst e
            have := (h.obj i' b' cs' hb' hi').k
            rw [hobj.k] at this; cases this; exact hne rfl
          rw [hcout _ _ (fun e => absurd e hbne)] at hv
          exact fin (.cell i' j) rfl (.cell hi' hb' hj hv)
  · intro b' ℓ hb'
    rw [hsize]
    have hb'' : (g.κ b').map (burial env.length i off) = some ℓ := hb'
    cases hk : g.κ b' with
    | none => rw [hk] at hb''; cases hb''
    | some ℓ' => exact h.kdom b' ℓ' hk
  · refine ⟨Nat.le_of_eq hsize.symm, hstr.1, hstr.2.1, hstr.2.2, ?_, hprom, fun _ => Nat.le_refl _, fun _ _ _ => rfl, ?_, fun _ _ h => h⟩
    · intro b' _ hn'
      exact hheap b' (by intro e; subst e; rw [hobj.k] at hn'; cases hn')
    · intro b' _ hn'; show (g.κ b').map _ = none; rw [hn']; rfl

end Go.Ev

namespace Go.Ev

theorem rep_slice_inv {X φ G w} {m : Md} {t : Ty} {l : List t.den} {a : Option Addr} {len cap : Nat} (h : RepV X φ G w (.sl m t l) (.slice a len cap)) :
    (l = [] ∧ a = none ∧ len = 0 ∧ cap = 0 ∧ m ≠ .nn) ∨ (l = [] ∧ (∃ p, a = some p) ∧ len = 0 ∧ m ≠ .own ∧ (m = .cap ∨ m = .oc → cap = 0) ∧ cap ≤ 9223372036854775807) ∨ ∃ (b off : Nat) (vs : Nat → Value), a = some ⟨b, off, none⟩ ∧ len = l.length ∧ l.length ≤ cap ∧ (m = .cap → cap = l.length) ∧ cap ≤ 9223372036854775807 ∧
      off + l.length * t.size ≤ G b ∧ (∀ j, j < l.length * t.size → w.cell? ⟨b, off + j, none⟩ = some (vs j)) ∧
      (∀ (i : Nat) x, l[i]? = some x → ∀ (j : Nat) c, (cells t x)[j]? = some c → RepV X φ G w c (vs (i * t.size + j))) := by
  generalize hd : D.sl m t l = d at h
  generalize hv : Value.slice a len cap = v at h
  cases h with
  | slNil hn => cases hd; cases hv; exact .inl ⟨rfl, rfl, rfl, rfl, hn⟩
  | slE hm hcap hmax => cases hd; cases hv; exact .inr (.inl ⟨rfl, ⟨_, rfl⟩, rfl, hm, hcap, hmax⟩)
  | sl vs hlen hcap hmax hp hc hr => cases hd; cases hv; exact .inr (.inr ⟨_, _, vs, rfl, rfl, hlen, hcap, hmax, hp, hc, hr⟩)
  | _ => first | cases hd | cases hv

theorem rep_slice_form {X φ G w} {m : Md} {t : Ty} {l : List t.den} {v : Value} (h : RepV X φ G w (.sl m t l) v) : ∃ a cap, v = .slice a l.length cap := by
  generalize hd : D.sl m t l = d at h
  cases h with
  | slNil hn => cases hd; exact ⟨none, 0, rfl⟩
  | slE hm hcap hmax => cases hd; exact ⟨_, _, rfl⟩
  | sl vs hlen hcap hmax hp hc hr => cases hd; exact ⟨_, _, rfl⟩
  | _ => cases hd

theorem cell_idx {n sz i j : Nat} (hi : i < n) (hj : j < sz) : i * sz + j < n * sz :=
  Nat.lt_of_lt_of_le (Nat.add_lt_add_left hj _) (by rw [← Nat.succ_mul]; exact Nat.mul_le_mul_right _ hi)

/-- Rows of cells of two lists, one behind the other. -/
theorem rep_append {X φ G w} {t : Ty} {l l2 : List t.den} {vs : Nat → Value} {ys : List Value} {u : Nat → Value}
    (h1 : ∀ (i : Nat) x, l[i]? = some x → ∀ (j : Nat) c, (cells t x)[j]? = some c → RepV X φ G w c (vs (i * t.size + j)))
    (h2 : ∀ (i : Nat) x, l2[i]? = some x → ∀ (j : Nat) c, (cells t x)[j]? = some c → ∃ u, ys[i * t.size + j]? = some u ∧ RepV X φ G w c u)
    (e1 : ∀ j, j < l.length * t.size → u j = vs j) (e2 : ∀ j y, ys[j]? = some y → u (l.length * t.size + j) = y) :
    ∀ (i : Nat) x, (l ++ l2)[i]? = some x → ∀ (j : Nat) c, (cells t x)[j]? = some c → RepV X φ G w c (u (i * t.size + j)) := by
  intro i x hx j c hc
  have hj : j < t.size := by rw [← cells_length t x]; exact (List.getElem?_eq_some_iff.1 hc).1
  by_cases hi : i < l.length
  · rw [List.getElem?_append_left hi] at hx
    rw [e1 _ (cell_idx hi hj)]; exact h1 i x hx j c hc
  · rw [List.getElem?_append_right (by omega)] at hx
    obtain ⟨y, hy, hr⟩ := h2 _ x hx j c hc
    have e : i * t.size + j = l.length * t.size + ((i - l.length) * t.size + j) := by
      rw [Nat.sub_mul]
      have : l.length * t.size ≤ i * t.size := Nat.mul_le_mul_right _ (by omega)
      omega
    rw [e, e2 _ y hy]; exact hr

/-- The last slice under a weaker mode. -/
theorem Sim.modeLast {X g w env vals sto} {m m' : Md} {t : Ty} {l : List t.den} {v : Value} (h : Sim X g w (env ++ [.sl m t l]) (vals ++ [v]) sto)
    (hr : RepV X g.φ g.G w (.sl m' t l) v) (hk : ∀ a len cap, v = .slice (some a) len cap → m'.keeps l.length cap → m.keeps l.length cap) : Sim X g w (env ++ [.sl m' t l]) (vals ++ [v]) sto := by
  have hl : env.length = vals.length := by have := h.len; simpa using this
  refine ⟨by simp [hl], ?_, h.slen, h.obj, ?_, h.kdom, h.gdom⟩
  · intro t' d' v' hd hv
    by_cases e : t' < env.length
    · rw [List.getElem?_append_left e] at hd
      exact h.rep t' d' v' (by rw [List.getElem?_append_left e]; exact hd) hv
    · have : t' = env.length := by have := (List.getElem?_eq_some_iff.1 hd).1; simp at this; omega
      subst this
      simp at hd; rw [hl] at hv; simp at hv; subst hd; subst hv; exact hr
  · intro ℓ md ty l' a len cap ho hmd
    cases ℓ with
    | env t' j =>
      by_cases e : t' < env.length
      · exact h.own _ _ _ _ _ _ _ (ho.shift (by rw [List.getElem?_append_left e, List.getElem?_append_left e]) rfl) hmd
      · have ht : t' = env.length := by have := ho.lt; simp at this; omega
        subst ht
        generalize hℓ : Loc.env env.length j = ℓ at ho ⊢
        generalize hx : D.sl md ty l' = x at ho
        generalize hy : Value.slice (some a) len cap = y at ho
        cases ho with
        | leaf hd hv =>
          cases hℓ
          simp at hd; rw [hl] at hv; simp at hv
          subst hd; cases hx; subst hv; subst hy
          exact h.own _ m t l a len cap (.leaf (by simp) (by rw [hl]; simp)) (hk _ _ _ rfl hmd)
        | agg hd hv hj he => cases hℓ; simp at hd
        | tup hd hv hj he => cases hℓ; simp at hd
        | cell => cases hℓ
    | obj i => exact ho.not_obj.elim
    | cell i j => exact h.own _ _ _ _ _ _ _ (ho.of_slot (fun _ _ h => by cases h)) hmd

theorem rep_oc {X φ G w} {m : Md} (hm : m = .own ∨ m = .cap) {t : Ty} {l : List t.den} {v : Value} (h : RepV X φ G w (.sl m t l) v) : RepV X φ G w (.sl .oc t l) v := by
  generalize hd : D.sl m t l = d at h
  cases h with
  | slNil hn => cases hd; exact .slNil (by decide)
  | slE h1 hcap hmax =>
    cases hd
    rcases hm with rfl | rfl
    · exact absurd rfl h1
    · exact .slE (by decide) (fun _ => hcap (.inl rfl)) hmax
  | sl vs hlen hcap hmax hp hc hr => cases hd; exact .sl vs hlen (by intro h; cases h) hmax hp hc hr
  | _ => cases hd

theorem Sim.ownOc {X g w env vals sto} {t : Ty} {l : List t.den} {v : Value} (h : Sim X g w (env ++ [.sl .own t l]) (vals ++ [v]) sto) : Sim X g w (env ++ [.sl .oc t l]) (vals ++ [v]) sto := by
  have hl : env.length = vals.length := by have := h.len; simpa using this
  exact h.modeLast (rep_oc (.inl rfl) (h.rep env.length _ v (by simp) (by rw [hl]; simp))) (fun _ _ _ _ _ => .inl rfl)

theorem Sim.capOc {X g w env vals sto} {t : Ty} {l : List t.den} {v : Value} (h : Sim X g w (env ++ [.sl .cap t l]) (vals ++ [v]) sto) : Sim X g w (env ++ [.sl .oc t l]) (vals ++ [v]) sto := by
  have hl : env.length = vals.length := by have := h.len; simpa using this
  have hr := h.rep env.length (.sl .cap t l) v (by simp) (by rw [hl]; simp)
  refine h.modeLast (rep_oc (.inr rfl) hr) (fun a len cap e hk => ?_)
  subst e
  rcases hk with e | ⟨_, hlt⟩
  · cases e
  · rcases rep_slice_inv hr with ⟨_, e, _⟩ | ⟨_, _, _, _, e, _⟩ | ⟨_, _, _, _, _, _, e, _⟩
    · cases e
    · have := e (.inl rfl); omega
    · have := e rfl; omega

/-- An append that fits the spare places. -/
theorem Sim.appendIn {X g w env vals sto} {md : Md} {t : Ty} {l l2 : List t.den} {b off cap : Nat} {ys : List Value}
    (h : Sim X g w (env ++ [.sl md t l]) (vals ++ [.slice (some ⟨b, off, none⟩) l.length cap]) sto) (hmd : md.keeps l.length cap)
    (hys : ys.length = l2.length * t.size) (hfit : l.length + l2.length ≤ cap)
    (h2 : ∀ (i : Nat) x, l2[i]? = some x → ∀ (j : Nat) c, (cells t x)[j]? = some c → ∃ u, ys[i * t.size + j]? = some u ∧ RepV X g.φ g.G w c u) :
    ∃ g', Sim X g' (w.setCells b (off + l.length * t.size) ys) (env ++ [.sl .own t (l ++ l2)]) (vals ++ [.slice (some ⟨b, off, none⟩) (l.length + l2.length) cap]) sto ∧
      Ext g w g' (w.setCells b (off + l.length * t.size) ys) := by
  have hl : env.length = vals.length := by have := h.len; simpa using this
  have hrep := h.rep env.length (.sl md t l) (.slice (some ⟨b, off, none⟩) l.length cap) (by simp) (by rw [hl]; simp)
  obtain ⟨k, gg, sp⟩ := h.own (.env env.length 0) md t l ⟨b, off, none⟩ l.length cap (.leaf (by simp) (by rw [hl]; simp)) hmd
  rcases rep_slice_inv hrep with ⟨_, hz, _⟩ | ⟨hz0, _, _, hz, hz2, _⟩ | ⟨b', off', vs, hz, _, hlen, _, hmax, hp, hc, hr⟩
  · cases hz
  · rcases hmd with e | ⟨e, e2⟩
    · exact absurd e hz
    · have := hz2 (.inr e); omega
  cases hz
  simp only at k gg sp
  have hbl := h.kdom b _ k
  have hmul : (l.length + l2.length) * t.size = l.length * t.size + l2.length * t.size := Nat.add_mul ..
  have hcapm : (l.length + l2.length) * t.size ≤ cap * t.size := Nat.mul_le_mul_right _ hfit
  have hthere : ∀ j, j < ys.length → (w.cell? ⟨b, off + l.length * t.size + j, none⟩).isSome = true := fun j hj => by
    obtain ⟨⟨u, hu⟩, _⟩ := sp (l.length * t.size + j) (by omega) (by omega)
    rw [Nat.add_assoc, hu]; rfl
  generalize hw' : w.setCells b (off + l.length * t.size) ys = w'
  have hcin : ∀ j y, ys[j]? = some y → w'.cell? ⟨b, off + (l.length * t.size + j), none⟩ = some y := fun j y hy => by
    have hj := (List.getElem?_eq_some_iff.1 hy).1
    subst hw'
    rw [← Nat.add_assoc, World.cell?_setCells_in b _ _ w hthere j hj, ← hy, List.getElem?_eq_getElem hj]
  have hcout : ∀ b' o, (b' = b → o < off + l.length * t.size ∨ off + l.length * t.size + ys.length ≤ o) → w'.cell? ⟨b', o, none⟩ = w.cell? ⟨b', o, none⟩ := fun b' o ho => by
    subst hw'
    exact World.cell?_setCells_out b _ _ w ⟨b', o, none⟩ (fun h1 _ => ho h1)
  have hfz : ∀ x, w'.frozen? x = w.frozen? x := fun x => by subst hw'; exact World.frozen?_setCells b _ _ w x
  have hheap : ∀ k, k ≠ b → w'.heap[k]? = w.heap[k]? := by subst hw'; exact fun k hk => setCells_heap b k hk _ _ w
  have hsize : w'.heap.size = w.heap.size := by subst hw'; exact setCells_size b _ _ w
  have hstr : w'.os = w.os ∧ w'.tape = w.tape ∧ w'.output = w.output := by subst hw'; exact setCells_str b _ _ w
  have hst : Stale g env.length b := .inr ⟨_, _, k, Nat.le_refl _⟩
  have hprom : ∀ b' o, o < g.G b' → w'.cell? ⟨b', o, none⟩ = w.cell? ⟨b', o, none⟩ := fun b' o ho => hcout b' o (fun e => by subst e; rw [gg] at ho; exact .inl ho)
  have hG : ∀ b', g.G b' ≤ upd g.G b (off + (l.length + l2.length) * t.size) b' := fun b' => by
    by_cases e : b' = b
    · subst e; rw [upd_same, gg, hmul]; omega
    · rw [upd_ne _ _ e]; exact Nat.le_refl _
  have h0 := h.drop.evolveX (w' := w') (G' := upd g.G b (off + (l.length + l2.length) * t.size)) b hst hG (fun b' ℓ hne _ => upd_ne _ _ hne) hprom
    (fun b' ℓ hne _ o => ⟨hcout b' o (fun e => absurd e hne), hfz _⟩) (Nat.le_of_eq hsize.symm)
    (fun b' hb' => by rw [hsize] at hb'; rw [upd_ne _ _ (by omega)]; exact h.gdom b' hb')
  have hmono : ∀ d v, RepV X g.φ g.G w d v → RepV X g.φ (upd g.G b (off + (l.length + l2.length) * t.size)) w' d v := fun d v hr => hr.mono (fun _ _ h => h) hG hprom
  have h1 := h0.claim (t := t) (l := l ++ l2) (b := b) (off := off) (len := l.length + l2.length) (cap := cap) hst (by rw [hsize]; exact hbl)
    (by
      have := RepV.sl (X := X) (φ := g.φ) (G := upd g.G b (off + (l.length + l2.length) * t.size)) (w := w') (m := .own) (t := t) (l := l ++ l2) (b := b) (off := off) (cap := cap)
        (fun j => (w'.cell? ⟨b, off + j, none⟩).getD undef) (by simpa using hfit) (by intro h; cases h) hmax (by rw [upd_same, List.length_append]; exact Nat.le_refl _)
        (fun j hj => by
          rw [List.length_append, hmul] at hj
          by_cases hj2 : j < l.length * t.size
          · rw [hcout b _ (fun _ => .inl (by omega)), hc j hj2]; rfl
          · obtain ⟨j', rfl⟩ : ∃ j', j = l.length * t.size + j' := ⟨j - l.length * t.size, by omega⟩
            have hj' : j' < ys.length := by omega
            rw [hcin j' ys[j'] (List.getElem?_eq_getElem hj')]; rfl)
        (rep_append (vs := vs) (ys := ys) (u := fun j => (w'.cell? ⟨b, off + j, none⟩).getD undef) (fun i x hx j c hc => hmono _ _ (hr i x hx j c hc)) (fun i x hx j c hc => by
            obtain ⟨u, hu, hr⟩ := h2 i x hx j c hc; exact ⟨u, hu, hmono _ _ hr⟩)
          (fun j hj => by show (w'.cell? ⟨b, off + _, none⟩).getD undef = _; rw [hcout b _ (fun _ => .inl (by omega)), hc j hj]; rfl)
          (fun j y hy => by show (w'.cell? ⟨b, off + _, none⟩).getD undef = _; rw [hcin j y hy]; rfl))
      rw [List.length_append] at this
      exact this)
    (by rw [List.length_append]; exact upd_same _ _ _)
    (fun j hj1 hj2 => by
      rw [List.length_append, hmul] at hj1
      obtain ⟨⟨u, hu⟩, hf⟩ := sp j (by omega) hj2
      exact ⟨⟨u, by rw [hcout b _ (fun _ => .inr (by omega))]; exact hu⟩, (hfz _).trans hf⟩)
  refine ⟨_, h1, ⟨Nat.le_of_eq hsize.symm, hstr.1, hstr.2.1, hstr.2.2, ?_, hprom, hG, ?_, ?_, fun _ _ h => h⟩⟩
  · intro b' _ hn; exact hheap b' (by intro e; subst e; rw [k] at hn; cases hn)
  · intro b' _ hn; exact upd_ne _ _ (by intro e; subst e; rw [k] at hn; cases hn)
  · intro b' _ hn
    show upd g.κ b _ b' = none
    rw [upd_ne _ _ (by intro e; subst e; rw [k] at hn; cases hn)]; exact hn

end Go.Ev

/-! The table of types, held against the program's. -/
namespace Go.Ev

def isAggB : TypeDesc → Bool
  | .struct _ | .array _ _ => true
  | _ => false

def zero1 : D → Value → Bool
  | .int k n, .int k' n' => decide (k = k') && decide (n = n') && decide (lo k ≤ n) && decide (n ≤ hi k)
  | .bool b, .bool b' => b == b'
  | .str s, .string t => decide (s = t.data.toList) && Nat.ble t.size 9223372036854775807
  | .nilp, .pointer none => true
  | .nils, .slice none 0 0 => true
  | .err .nil, .nilIface => true
  | .nilf, .nilFunc => true
  | _, _ => false

theorem zero1_spec {d : D} {v : Value} (h : zero1 d v = true) {X φ G w} : RepV X φ G w d v ∧ d.leaf = true := by
  unfold zero1 at h
  split at h
  · simp at h
    obtain ⟨⟨⟨rfl, rfl⟩, h1⟩, h2⟩ := h
    exact ⟨.int ⟨h1, h2⟩, rfl⟩
  · simp at h; subst h; exact ⟨.bool _, rfl⟩
  · rw [Bool.and_eq_true, decide_eq_true_eq] at h
    obtain ⟨rfl, h2⟩ := h
    exact ⟨.str _ (Nat.le_of_ble_eq_true h2), rfl⟩
  · exact ⟨.nilp, rfl⟩
  · exact ⟨.nils, rfl⟩
  · exact ⟨.errNil, rfl⟩
  · exact ⟨.nilf, rfl⟩
  · cases h

def zeroL : List D → List Value → Bool
  | [], [] => true
  | d :: r, v :: s => zero1 d v && zeroL r s
  | _, _ => false

theorem zeroL_spec : ∀ {ds : List D} {vs : List Value}, zeroL ds vs = true → vs.length = ds.length ∧ ∀ (j : Nat) c, ds[j]? = some c → ∃ u, vs[j]? = some u ∧ zero1 c u = true
  | [], [], _ => ⟨rfl, fun j c h => by simp at h⟩
  | [], _ :: _, h => by cases h
  | _ :: _, [], h => by cases h
  | d :: r, v :: s, h => by
    rw [zeroL, Bool.and_eq_true] at h
    obtain ⟨h1, h2⟩ := h
    obtain ⟨hl, hg⟩ := zeroL_spec h2
    refine ⟨by simp [hl], fun j c hj => ?_⟩
    cases j with
    | zero => simp at hj; subst hj; exact ⟨v, rfl, h1⟩
    | succ j => simp at hj; simpa using hg j c hj

def fieldB (P : Program) (fi : FI) (f : Field) : Bool :=
  Nat.beq f.offset fi.off && (match P.info? f.type, P.underlying f.type with
    | some i, some d => Nat.beq i.size fi.size && (isAggB d == fi.agg) && (fi.agg || Nat.beq fi.size 1)
    | _, _ => false)

def fieldsB (P : Program) : List FI → List Field → Bool
  | [], [] => true
  | fi :: r, f :: s => fieldB P fi f && fieldsB P r s
  | _, _ => false

def descB (P : Program) : TD → TypeDesc → Bool
  | .int k, .int k' => decide (k = k')
  | .bool, .bool => true
  | .str, .string => true
  | .slice e, .slice e' => Nat.beq e e'
  | .struct fs, .struct F => fieldsB P fs F.toList
  | .array n e, .array n' e' => Nat.beq n n' && Nat.beq e e'
  | .ptr e, .pointer e' => Nat.beq e e'
  | .iface, .interface _ => true
  | .func, .func _ _ _ => true
  | .other, _ => true
  | _, _ => false

def teB (P : Program) (t : TypeId) (e : TE) : Bool :=
  match P.info? t, P.underlying t with
  | some i, some d =>
    Nat.beq i.size e.size && Nat.beq i.bytes e.bytes && (isAggB d == e.agg) && (e.agg || Nat.beq e.size 1) &&
    (match i.zero with | some z => zeroL e.zero z.cells.toList | none => false) && Nat.beq e.zero.length e.size && descB P e.d d &&
    (match e.ty with | some ty => Nat.beq ty.size e.size && (ty.agg == e.agg) && Nat.ble 1 e.size && Nat.ble 1 e.bytes | none => true)
  | _, _ => false

def tabB (P : Program) (tab : List (Nat × TE)) : Bool := tab.all fun p => teB P p.1 p.2

theorem look_mem {α : Type} : ∀ {l : List (Nat × α)} {n : Nat} {x : α}, look l n = some x → (n, x) ∈ l
  | [], _, _, h => by cases h
  | (a, y) :: r, n, x, h => by
    unfold look at h
    cases hb : Nat.beq a n with
    | true =>
      rw [hb] at h; cases h
      have := Nat.eq_of_beq_eq_true hb
      subst this; exact List.mem_cons_self
    | false => rw [hb] at h; exact List.mem_cons_of_mem _ (look_mem h)

structure TEok (P : Program) (t : TypeId) (e : TE) : Prop where
  info : ∃ i z, P.info? t = some i ∧ i.size = e.size ∧ i.bytes = e.bytes ∧ i.zero = some z ∧ zeroL e.zero z.cells.toList = true
  desc : ∃ d, P.underlying t = some d ∧ isAggB d = e.agg ∧ descB P e.d d = true
  one : e.agg = false → e.size = 1
  zlen : e.zero.length = e.size
  ty : ∀ ty, e.ty = some ty → ty.size = e.size ∧ ty.agg = e.agg ∧ 1 ≤ e.size ∧ 1 ≤ e.bytes

theorem teB_spec {P : Program} {t : TypeId} {e : TE} (h : teB P t e = true) : TEok P t e := by
  unfold teB at h
  split at h
  · rename_i i d hi hd
    simp only [Bool.and_eq_true] at h
    obtain ⟨⟨⟨⟨⟨⟨⟨h1, h2⟩, h3⟩, h4⟩, h5⟩, h6⟩, h7⟩, h8⟩ := h
    refine ⟨?_, ⟨d, hd, by simpa using h3, h7⟩, ?_, Nat.eq_of_beq_eq_true h6, ?_⟩
    · cases hz : i.zero with
      | none => rw [hz] at h5; cases h5
      | some z => rw [hz] at h5; exact ⟨i, z, hi, Nat.eq_of_beq_eq_true h1, Nat.eq_of_beq_eq_true h2, hz, h5⟩
    · intro ha; rw [ha] at h4; exact Nat.eq_of_beq_eq_true (by simpa using h4)
    · intro ty hty
      rw [hty] at h8
      simp only [Bool.and_eq_true] at h8
      exact ⟨Nat.eq_of_beq_eq_true h8.1.1.1, by simpa using h8.1.1.2, Nat.le_of_ble_eq_true h8.1.2, Nat.le_of_ble_eq_true h8.2⟩
  · cases h

theorem tab_ok {P : Program} {tab : List (Nat × TE)} (h : tabB P tab = true) {t : TypeId} {e : TE} (ht : look tab t = some e) : TEok P t e :=
  teB_spec (List.all_eq_true.1 h _ (look_mem ht))

theorem fieldsB_get {P : Program} : ∀ {fs : List FI} {F : List Field}, fieldsB P fs F = true → ∀ (j : Nat) fi, fs[j]? = some fi → ∃ f, F[j]? = some f ∧ fieldB P fi f = true
  | [], [], _, j, fi, h => by simp at h
  | [], _ :: _, h, _, _, _ => by cases h
  | _ :: _, [], h, _, _, _ => by cases h
  | a :: r, f :: s, h, j, fi, hj => by
    rw [fieldsB, Bool.and_eq_true] at h
    cases j with
    | zero => simp at hj; subst hj; exact ⟨f, rfl, h.1⟩
    | succ j => simp at hj; simpa using fieldsB_get h.2 j fi hj

end Go.Ev

/-! Each operation does in the world what it does in the evaluator: first part. -/
namespace Go.Ev

theorem rep_const {X φ G w} (v : Value) : RepV X φ G w (constD v) v := by
  unfold constD
  split
  · split
    · rename_i h1 h2; exact .int ⟨of_decide_eq_true h1, of_decide_eq_true h2⟩
    · exact .any _
  · exact .bool _
  · split
    · rename_i h; exact .str _ (Nat.le_of_ble_eq_true h)
    · exact .any _
  · exact .nilp
  · exact .nils
  · exact .errNil
  · exact .nilf
  · exact .any _

theorem const_free (v : Value) : (constD v).free = true := by
  unfold constD
  split <;> (try split) <;> rfl

theorem getD_out {α : Type} {l : List α} {n : Nat} {x : α} (h : l.length ≤ n) : l.getD n x = x := by simp [List.getD, List.getElem?_eq_none h]

theorem Sim.read {X g w env sto} {a : Act} (h : Sim X g w env a.tmps.toList sto) (x : Operand) : RepV X g.φ g.G w (rd env x) (a.eval x) := by
  cases x with
  | tmp t =>
    show RepV X g.φ g.G w (env.getD t .any) (a.tmps.getD t undef)
    by_cases ht : t < env.length
    · have hv : t < a.tmps.size := Nat.lt_of_lt_of_eq ht (h.len.trans Array.length_toList)
      refine h.rep t _ _ (by simp [List.getD, ht]) ?_
      simp [Array.getD, hv]
    · rw [getD_out (Nat.le_of_not_lt ht)]; exact .any _
  | const v => exact rep_const v
  | func f => exact .fn rfl (fun j c hj => by simp at hj)
  | global g => exact .any _

theorem rd_tmp_get {env : List D} {t : Nat} (h : t < env.length) : env[t]? = some (env.getD t .any) := by simp [List.getD, h]

/-- An operand comes to hand. -/
theorem Sim.take {X g w env sto} {a : Act} (h : Sim X g w env a.tmps.toList sto) (x : Operand) :
    ∃ g', Sim X g' w (left env x ++ [rd env x]) (a.tmps.toList ++ [a.eval x]) sto ∧ Ext g w g' w ∧ g'.φ = g.φ ∧ g'.G = g.G := by
  have hr := h.read x
  cases x with
  | tmp t =>
    by_cases ht : t < env.length
    · have hv : t < a.tmps.size := Nat.lt_of_lt_of_eq ht (h.len.trans Array.length_toList)
      exact h.hand (rd_tmp_get ht) (by simp [Act.eval, Array.getD, hv])
    · have e : rd env (.tmp t) = .any := getD_out (Nat.le_of_not_lt ht)
      have e2 : left env (.tmp t) = env := List.set_eq_of_length_le (Nat.le_of_not_lt ht)
      rw [e, e2]
      exact ⟨g, h.push _ _ (.any _) rfl, .refl _ _, rfl, rfl⟩
  | const v => exact ⟨g, h.push _ _ hr (const_free v), .refl _ _, rfl, rfl⟩
  | func f => exact ⟨g, h.push _ _ hr rfl, .refl _ _, rfl, rfl⟩
  | global b => exact ⟨g, h.push _ _ hr rfl, .refl _ _, rfl, rfl⟩

section
variable {P : Program} {X : Cfg} {R : Type}

/-- What is to be shown of an operation that yields a value. -/
def OpOk (P : Program) (X : Cfg) (o : Oper) (a : Act) (w : World) (g : Gh) (k : St → Option R) (r : R) : Prop :=
  ∃ v w' g' env' sto', ((execOp a.eval o).run P w = .ok (.value v) w' ∨ ((execOp a.eval o).run P w = .ok .skip w' ∧ v = undef)) ∧ k ⟨env', sto'⟩ = some r ∧
    Sim X g' w' env' (putV a.tmps.toList o.dst v) sto' ∧ Ext g w g' w'

theorem OpOk.wp {o : Oper} {a : Act} {w : World} {g : Gh} {k : St → Option R} {r : R} (h : OpOk P X o a w g k r) {next : Act → World → Prop} {Q : Exit → Act → World → Prop}
    (hn : ∀ v w' g' env' sto', k ⟨env', sto'⟩ = some r → Sim X g' w' env' (putV a.tmps.toList o.dst v) sto' → Ext g w g' w' → next (a.put o.dst v) w') : o.wp P a w next Q := by
  obtain ⟨v, w', g', env', sto', hrun, hk, hs, he⟩ := h
  unfold Oper.wp
  rcases hrun with hrun | ⟨hrun, rfl⟩
  · rw [hrun]; exact hn v w' g' env' sto' hk hs he
  · rw [hrun]; exact hn undef w' g' env' sto' hk hs he

/-- An operation that changes nothing, and whose value owns nothing. -/
theorem opOk_pure {o : Oper} {a : Act} {w : World} {g : Gh} {env sto} {k : St → Option R} {r : R} (h : Sim X g w env a.tmps.toList sto) (v : Value) (d : D)
    (hrun : (execOp a.eval o).run P w = .ok (.value v) w) (hr : RepV X g.φ g.G w d v) (hf : d.free = true) (hk : k ⟨put env o.dst d, sto⟩ = some r) : OpOk P X o a w g k r :=
  ⟨v, w, g, _, _, .inl hrun, hk, h.put o.dst d v hr hf, .refl _ _⟩

variable {o : Oper} {a : Act} {w : World} {g : Gh} {env : List D} {sto : Sto} {k : St → Option R} {r : R}

theorem op_move (x : Operand) (ho : o.op = .move x ∨ o.op = .assign x) (h : Sim X g w env a.tmps.toList sto)
    (hk : k ⟨put (left env x) o.dst (rd env x), sto⟩ = some r) : OpOk P X o a w g k r := by
  obtain ⟨g1, h1, e1, _⟩ := h.take x
  obtain ⟨g2, h2, e2, _⟩ := h1.lay o.dst
  exact ⟨a.eval x, w, g2, _, _, .inl (by rcases ho with ho | ho <;> simp [execOp, ho]), hk, h2, e1.trans e2⟩

theorem op_copy (x : Operand) (ho : o.op = .move x) (h : Sim X g w env a.tmps.toList sto)
    (hk : k ⟨put env o.dst (rd env x).dup, sto⟩ = some r) : OpOk P X o a w g k r :=
  opOk_pure h (a.eval x) _ (by simp [execOp, ho]) (h.read x).dup (dup_free _) hk

theorem rep_bool {φ G} {b : Bool} {v : Value} (h : RepV X φ G w (.bool b) v) : v = .bool b := by
  generalize hd : D.bool b = d at h
  cases h <;> cases hd; rfl

theorem rep_int {φ G} {kd : IntKind} {n : Int} {v : Value} (h : RepV X φ G w (.int kd n) v) : v = .int kd n ∧ InR kd n := by
  generalize hd : D.int kd n = d at h
  cases h <;> cases hd
  exact ⟨rfl, by assumption⟩

theorem rep_str {φ G} {s : List UInt8} {v : Value} (h : RepV X φ G w (.str s) v) : v = .string ⟨s.toArray⟩ ∧ s.length ≤ 9223372036854775807 := by
  generalize hd : D.str s = d at h
  cases h <;> cases hd
  rename_i s h
  exact ⟨rfl, h⟩

theorem rep_ptr {φ G} {i off : Nat} {v : Value} (h : RepV X φ G w (.ptr i off) v) : ∃ b, φ[i]? = some b ∧ v = .pointer (some ⟨b, off, none⟩) := by
  generalize hd : D.ptr i off = d at h
  cases h <;> cases hd
  exact ⟨_, by assumption, rfl⟩

theorem rep_box {φ G} {cs : List D} {v : Value} (h : RepV X φ G w (.box cs) v) :
    ∃ (b off : Nat) (vs : Nat → Value), v = .pointer (some ⟨b, off, none⟩) ∧ off + cs.length ≤ G b ∧ (∀ j, j < cs.length → w.cell? ⟨b, off + j, none⟩ = some (vs j)) ∧
      (∀ (j : Nat) c, cs[j]? = some c → c.closed = true) ∧ (∀ (j : Nat) c, cs[j]? = some c → RepV X φ G w c (vs j)) := by
  generalize hd : D.box cs = d at h
  cases h <;> cases hd
  exact ⟨_, _, _, rfl, by assumption, by assumption, by assumption, by assumption⟩

theorem op_pick (c x y : Operand) (ho : o.op = .pick c x y) (h : Sim X g w env a.tmps.toList sto) (t : Bool) (hc : rd env c = .bool t)
    (hk : k ⟨put env o.dst (rd env (if t then x else y)).dup, sto⟩ = some r) : OpOk P X o a w g k r := by
  have hb := rep_bool (hc ▸ h.read c)
  refine opOk_pure h (a.eval (if t then x else y)) _ ?_ (h.read _).dup (dup_free _) hk
  cases t <;> simp [execOp, ho, hb, asBool]

theorem op_nilCheck (x : Operand) (ho : o.op = .nilCheck x) (h : Sim X g w env a.tmps.toList sto)
    (hx : (∃ i off, rd env x = .ptr i off) ∨ (∃ cs, rd env x = .box cs) ∨ (∃ f cs, rd env x = .fn f cs))
    (hk : k ⟨put env o.dst (rd env x), sto⟩ = some r) : OpOk P X o a w g k r := by
  have hr := h.read x
  refine opOk_pure h (a.eval x) _ ?_ hr ?_ hk
  · rcases hx with ⟨i, off, hx⟩ | ⟨cs, hx⟩ | ⟨f, cs, hx⟩
    · obtain ⟨b, _, hv⟩ := rep_ptr (hx ▸ hr); simp [execOp, ho, hv]
    · obtain ⟨b, off, vs, hv, _⟩ := rep_box (hx ▸ hr); simp [execOp, ho, hv]
    · rw [hx] at hr
      generalize hd : D.fn f cs = d at hr
      generalize hv : a.eval x = v at hr
      cases hr <;> cases hd
      simp [execOp, ho, hv]
  · rcases hx with ⟨i, off, hx⟩ | ⟨cs, hx⟩ | ⟨f, cs, hx⟩ <;> rw [hx] <;> rfl

theorem run_zero {P : Program} {t : TypeId} {i : TypeInfo} {z : Value} (hi : P.info? t = some i) (hz : i.zero = some z) (w : World) : (zeroValue t).run P w = .ok z w := by
  simp [zeroValue, typeInfo, hi, hz]

theorem op_alloc (t : TypeId) (ho : o.op = .alloc t) (h : Sim X g w env a.tmps.toList sto) {e : TE} (he : TEok P t e) (h1 : e.zero ≠ [])
    (hk : k ⟨put env o.dst (.ptr sto.length 0), sto ++ [e.zero]⟩ = some r) : OpOk P X o a w g k r := by
  obtain ⟨i, z, hi, _, _, hz, hzl⟩ := he.info
  obtain ⟨hl, hg⟩ := zeroL_spec hzl
  have hrep : RepV X g.φ g.G w (.agg e.zero) (.agg z.cells) := .agg (by simpa using hl) (fun j c hj => by
    obtain ⟨u, hu, hz1⟩ := hg j c hj
    have : (z.cells).getD j undef = u := by
      have hu' : z.cells[j]? = some u := by simpa using hu
      have := (Array.getElem?_eq_some_iff.1 hu')
      simp [Array.getD, this.1, this.2]
    rw [this]; exact (zero1_spec hz1).1)
  have hfree : (D.agg e.zero).free = true := by
    simp only [D.free, List.all_eq_true]
    intro c hc
    obtain ⟨j, hj⟩ := List.mem_iff_getElem?.1 hc
    obtain ⟨u, hu, hz1⟩ := hg j c hj
    unfold zero1 at hz1
    split at hz1 <;> first | rfl | cases hz1
  obtain ⟨g1, h2, e1⟩ := (h.push _ _ hrep hfree).bury h1 t
  obtain ⟨g2, h3, e2, _⟩ := h2.lay o.dst
  refine ⟨_, _, g2, _, _, .inl ?_, hk, h3, e1.trans e2⟩
  simp [execOp, ho, Instr.alloc, Sem.run_bind, run_zero hi hz, newVar, newRow]
  rfl

theorem op_box (t : TypeId) (x : Operand) (ho : o.op = .box t x) (h : Sim X g w env a.tmps.toList sto) (h1 : (rd env x).cells ≠ [])
    (hk : k ⟨put (left env x) o.dst (.ptr sto.length 0), sto ++ [(rd env x).cells]⟩ = some r) : OpOk P X o a w g k r := by
  obtain ⟨g0, h0, e0, _⟩ := h.take x
  obtain ⟨g1, h2, e1⟩ := h0.bury h1 t
  obtain ⟨g2, h3, e2, _⟩ := h2.lay o.dst
  refine ⟨_, _, g2, _, _, .inl ?_, hk, h3, e0.trans (e1.trans e2)⟩
  simp [execOp, ho, Instr.box, newVar, newRow]

end
end Go.Ev

/-! Loads and stores. -/
namespace Go.Ev
section
variable {P : Program} {X : Cfg} {R : Type}
variable {o : Oper} {a : Act} {w : World} {g : Gh} {env : List D} {sto : Sto} {k : St → Option R} {r : R}

theorem run_isAgg {t : TypeId} {d : TypeDesc} (h : P.underlying t = some d) (w : World) : (isAgg t).run P w = .ok (isAggB d) w := by
  unfold isAgg
  rw [Sem.run_bind, run_underlying h w]
  cases d <;> rfl

theorem ofCells_free (b : Bool) (cs : List D) : (ofCells b (cs.map D.dup1)).free = true := by
  cases b with
  | true => simp only [ofCells, D.free, List.all_map, List.all_eq_true]; intro c _; exact dup1_free1 c
  | false => exact dup_free _

theorem run_loadAt {φ : List Nat} {G : Nat → Nat} {t : TypeId} {e : TE} (he : TEok P t e) {b off : Nat} {cs : List D} (hl : cs.length = e.size)
    (hc : ∀ (j : Nat) c, cs[j]? = some c → ∃ v, w.cell? ⟨b, off + j, none⟩ = some v ∧ RepV X φ G w c v) :
    ∃ v, (Instr.loadAt t (.pointer (some ⟨b, off, none⟩))).run P w = .ok v w ∧ RepV X φ G w (ofCells e.agg (cs.map D.dup1)) v := by
  obtain ⟨i, z, hi, hsz, _⟩ := he.info
  obtain ⟨d, hd, hagg, _⟩ := he.desc
  cases ha : e.agg with
  | true =>
    rw [ha] at hagg
    let us : List Value := (List.range e.size).map fun j => (w.cell? ⟨b, off + j, none⟩).getD undef
    have hus : us.length = e.size := by simp [us]
    have hget : ∀ j, j < e.size → us[j]? = some ((w.cell? ⟨b, off + j, none⟩).getD undef) := fun j hj => by simp [us, hj]
    have hrange : w.rangeAt b off us := fun j v hv => by
      have hj : j < e.size := hus ▸ (List.getElem?_eq_some_iff.1 hv).1
      rw [hget j hj] at hv; cases hv
      obtain ⟨v, h1, _⟩ := hc j (cs[j]'(by omega)) (by simp)
      rw [h1]; rfl
    refine ⟨_, run_loadAt_mid w b off t us d hrange hd (by cases d <;> first | rfl | (simp [isAggB] at hagg)) (by rw [hi, hus, ← hsz]; rfl), ?_⟩
    refine .agg (by simp [hus, hl]) (fun j c hj => ?_)
    simp only [List.getElem?_map, Option.map_eq_some_iff] at hj
    obtain ⟨c0, h0, rfl⟩ := hj
    obtain ⟨v, h1, h2⟩ := hc j c0 h0
    have hj : j < e.size := hl ▸ (List.getElem?_eq_some_iff.1 h0).1
    have hg := hget j hj
    rw [h1] at hg
    have : us.toArray.getD j undef = v := by
      have := List.getElem?_eq_some_iff.1 hg
      simp [Array.getD, this.1, this.2]
    rw [this]; exact h2.dup1
  | false =>
    rw [ha] at hagg
    have h1 := he.one ha
    match cs, hl with
    | [c], _ =>
      obtain ⟨v, hv, hr⟩ := hc 0 c rfl
      refine ⟨v, ?_, hr.dup1.dup⟩
      simp only [Nat.add_zero] at hv
      simp [Instr.loadAt, Instr.sureAddr, loadVar, Sem.run_bind, run_isAgg hd, hagg, hv]
    | [], hl => simp at hl; omega
    | _ :: _ :: _, hl => simp at hl; omega

theorem op_load (t : TypeId) (x : Operand) (ho : o.op = .load t x) (h : Sim X g w env a.tmps.toList sto) {e : TE} (he : TEok P t e) {i off : Nat} {cs : List D}
    (hx : rd env x = .ptr i off) (hi : sto[i]? = some cs) (hle : off + e.size ≤ cs.length)
    (hk : k ⟨put env o.dst (ofCells e.agg (((cs.drop off).take e.size).map D.dup1)), sto⟩ = some r) : OpOk P X o a w g k r := by
  obtain ⟨b, hb, hv⟩ := rep_ptr (hx ▸ h.read x)
  have hobj := h.obj i b cs hb hi
  obtain ⟨v, hrun, hr⟩ := run_loadAt (X := X) (φ := g.φ) (G := g.G) (w := w) he (b := b) (off := off) (cs := (cs.drop off).take e.size) (by simp; omega) (fun j c hj => by
    have hj2 : j < e.size := by have := (List.getElem?_eq_some_iff.1 hj).1; simp at this; omega
    rw [List.getElem?_take] at hj
    simp only [hj2, if_true, List.getElem?_drop] at hj
    obtain ⟨v, h1, _, h2⟩ := hobj.cell (off + j) c hj
    exact ⟨v, h1, h2⟩)
  exact opOk_pure h v _ (by simp [execOp, ho, hv, hrun]) hr (ofCells_free _ _) hk

theorem op_loadBox (t : TypeId) (x : Operand) (ho : o.op = .load t x) (h : Sim X g w env a.tmps.toList sto) {e : TE} (he : TEok P t e) {cs : List D}
    (hx : rd env x = .box cs) (hle : e.size ≤ cs.length)
    (hk : k ⟨put env o.dst (ofCells e.agg ((cs.take e.size).map D.dup1)), sto⟩ = some r) : OpOk P X o a w g k r := by
  obtain ⟨b, off, vs, hv, _, hc, _, hr0⟩ := rep_box (hx ▸ h.read x)
  obtain ⟨v, hrun, hr⟩ := run_loadAt (X := X) (φ := g.φ) (G := g.G) (w := w) he (b := b) (off := off) (cs := cs.take e.size) (by simp; omega) (fun j c hj => by
    have hj2 : j < e.size := by have := (List.getElem?_eq_some_iff.1 hj).1; simp at this; omega
    rw [List.getElem?_take] at hj
    simp only [hj2, if_true] at hj
    exact ⟨vs j, hc j (List.getElem?_eq_some_iff.1 hj).1, hr0 j c hj⟩)
  exact opOk_pure h v _ (by simp [execOp, ho, hv, hrun]) hr (ofCells_free _ _) hk

/-- A cell of an object comes to hand, with what it owns. -/
theorem Sim.pull {X g w env vals sto} (h : Sim X g w env vals sto) {i b j : Nat} {cs : List D} {c : D} {v : Value} (hi : sto[i]? = some cs) (hb : g.φ[i]? = some b)
    (hj : cs[j]? = some c) (hv : w.cell? ⟨b, j, none⟩ = some v) (hlf : c.leaf = true) :
    ∃ g', Sim X g' w (env ++ [c]) (vals ++ [v]) (sto.set i (cs.set j c.dup1)) ∧ Ext g w g' w ∧ g'.φ = g.φ ∧ g'.G = g.G := by
  have hobj := h.obj i b cs hb hi
  obtain ⟨v0, hv0, hf0, hr0⟩ := hobj.cell j c hj
  rw [hv] at hv0; cases hv0
  let ρ : Loc → Loc := fun ℓ => if ℓ = .cell i j then .env env.length 0 else ℓ
  have hjl := (List.getElem?_eq_some_iff.1 hj).1
  have hil := (List.getElem?_eq_some_iff.1 hi).1
  refine ⟨{ g with κ := fun b => (g.κ b).map ρ }, ⟨by simp [h.len], ?_, by simp [h.slen], ?_, ?_, ?_, h.gdom⟩, .names ρ, rfl, rfl⟩
  · intro t d u hd hu
    rcases getElem?_snoc hd with ⟨hl, hd⟩ | ⟨rfl, rfl⟩
    · rw [List.getElem?_append_left (h.len ▸ hl)] at hu; exact h.rep t d u hd hu
    · rw [h.len] at hu; simp at hu; subst hu; exact hr0
  · intro i' b' cs' hb' hi'
    rcases get_set_eq hi' with ⟨rfl, _, rfl⟩ | ⟨hne, hi'⟩
    · rw [hb] at hb'; cases hb'
      refine ⟨by show (g.κ b).map ρ = _; rw [hobj.k]; rfl, hobj.g0, fun j' c' hj' => ?_⟩
      rcases get_set_eq hj' with ⟨rfl, _, rfl⟩ | ⟨_, hj'⟩
      · exact ⟨v, hv, hf0, hr0.dup1⟩
      · exact hobj.cell j' c' hj'
    · obtain ⟨k, g0, cell⟩ := h.obj i' b' cs' hb' hi'
      exact ⟨by show (g.κ b').map ρ = _; rw [k]; rfl, g0, cell⟩
  · intro ℓ md ty l a len cap ho hmd
    have fin : ∀ ℓ0, ρ ℓ0 = ℓ → Occ g.φ w env vals sto ℓ0 (.sl md ty l) (.slice (some a) len cap) →
        Own1 (fun b => (g.κ b).map ρ) g.G w ℓ ty.size l.length a cap := by
      intro ℓ0 hℓ ho0
      obtain ⟨k, gg, sp⟩ := h.own _ _ _ _ _ _ _ ho0 hmd
      exact ⟨by show (g.κ a.block).map ρ = _; rw [k]; exact congrArg some hℓ, gg, sp⟩
    cases ℓ with
    | env t j' =>
      by_cases ht : t < env.length
      · refine fin (.env t j') (by simp [ρ]) ?_
        have := ho.shift (env' := env) (vals' := vals) (t' := t) (List.getElem?_append_left ht).symm (List.getElem?_append_left (h.len ▸ ht)).symm
        generalize hℓ : Loc.env t j' = ℓ at this ⊢
        cases this with
        | leaf hd hv => exact .leaf hd hv
        | agg hd hv hj he => exact .agg hd hv hj he
        | tup hd hv hj he => exact .tup hd hv hj he
        | cell => cases hℓ
      · have he : t = env.length := by have := ho.lt; simp at this; omega
        subst he
        generalize hℓ : Loc.env env.length j' = ℓ at ho
        generalize hx : D.sl md ty l = x at ho
        generalize hy : Value.slice (some a) len cap = y at ho
        cases ho with
        | leaf hd hv' =>
          cases hℓ
          simp at hd; rw [h.len] at hv'; simp at hv'
          subst hd; subst hx; subst hv'; subst hy
          exact fin (.cell i j) (by simp [ρ]) (.cell hi hb hj hv)
        | agg hd hv' hj' he => cases hℓ; simp at hd; subst hd; cases hlf
        | tup hd hv' hj' he => cases hℓ; simp at hd; subst hd; cases hlf
        | cell => cases hℓ
    | obj i => exact ho.not_obj.elim
    | cell i' j' =>
      generalize hℓ : Loc.cell i' j' = ℓ at ho
      generalize hx : D.sl md ty l = x at ho
      generalize hy : Value.slice (some a) len cap = y at ho
      cases ho with
      | leaf => cases hℓ
      | agg => cases hℓ
      | tup => cases hℓ
      | cell hi' hb' hj' hv' =>
        cases hℓ
        rename_i b' cs'
        subst hx; subst hy
        rcases get_set_eq hi' with ⟨rfl, _, rfl⟩ | ⟨hne, hi'⟩
        · have e : b' = b := by
            have hb'' : g.φ[i]? = some b' := hb'
            rw [hb] at hb''; exact (Option.some.inj hb'').symm
          subst e
          rcases get_set_eq hj' with ⟨rfl, _, e⟩ | ⟨hne, hj'⟩
          · have := dup1_free1 c; rw [← e, (keeps_free1 hmd).1] at this; cases this
          · exact fin (.cell i j') (by simp [ρ, Ne.symm hne]) (.cell hi hb hj' hv')
        · exact fin (.cell i' j') (by simp [ρ, Ne.symm hne]) (.cell hi' hb' hj' hv')
  · intro b' ℓ hb'
    have hb'' : (g.κ b').map ρ = some ℓ := hb'
    cases hk : g.κ b' with
    | none => rw [hk] at hb''; cases hb''
    | some ℓ' => exact h.kdom b' ℓ' hk

theorem op_loadTake (t : TypeId) (x : Operand) (ho : o.op = .load t x) (h : Sim X g w env a.tmps.toList sto) {e : TE} (he : TEok P t e) (hag : e.agg = false) {i off : Nat} {cs : List D} {c : D}
    (hx : rd env x = .ptr i off) (hi : sto[i]? = some cs) (hc : cs[off]? = some c) (hlf : c.leaf = true)
    (hk : k ⟨put env o.dst c, sto.set i (cs.set off c.dup1)⟩ = some r) : OpOk P X o a w g k r := by
  obtain ⟨b, hb, hv⟩ := rep_ptr (hx ▸ h.read x)
  have hobj := h.obj i b cs hb hi
  obtain ⟨v, hcell, _, _⟩ := hobj.cell off c hc
  obtain ⟨g1, h1, e1, _⟩ := h.pull hi hb hc hcell hlf
  obtain ⟨g2, h2, e2, _⟩ := h1.lay o.dst
  obtain ⟨d, hd, hagg, _⟩ := he.desc
  rw [hag] at hagg
  refine ⟨v, w, g2, _, _, .inl ?_, hk, h2, e1.trans e2⟩
  simp [execOp, ho, hv, Instr.loadAt, Instr.sureAddr, loadVar, Sem.run_bind, run_isAgg hd, hagg, hcell]

theorem op_store (t : TypeId) (x y : Operand) (ho : o.op = .store t x y) (h : Sim X g w env a.tmps.toList sto) {e : TE} (he : TEok P t e) {i off : Nat} {cs : List D}
    (hx : rd env x = .ptr i off) (hi : sto[i]? = some cs) (hle : off + e.size ≤ cs.length) (hf : fits (rd env y).cells e.size = true)
    (hk : k ⟨put (left env y) o.dst (.tup []), sto.set i (splice cs off (rd env y).cells)⟩ = some r) : OpOk P X o a w g k r := by
  obtain ⟨hlen, hlv, h1⟩ := fits_spec hf
  have hne : (rd env y).cells ≠ [] := by intro e0; rw [e0] at hlen; simp at hlen; omega
  obtain ⟨b, hb, hv⟩ := rep_ptr (hx ▸ h.read x)
  obtain ⟨hsz, hcr⟩ := cells_rep (h.read y) hne
  have hobj := h.obj i b cs hb hi
  obtain ⟨g1, h2, e1, eφ, eG⟩ := h.take y
  obtain ⟨g2, h3, e2⟩ := h2.storeIn (off := off) hi (by rw [eφ]; exact hb) hne (by rw [hlen]; exact hle)
  have h4 := h3.put o.dst (.tup []) undef (.tup rfl (fun j c hj => by simp at hj)) rfl
  obtain ⟨inf, z, hinf, hs, _⟩ := he.info
  have hin : ∀ j, j < (a.eval y).cells.toList.length → off + j < cs.length := fun j hj => by
    rw [Array.length_toList, hsz, hlen] at hj
    exact Nat.lt_of_lt_of_le (Nat.add_lt_add_left hj off) hle
  have hcells : (storeCells ⟨b, off, none⟩ (a.eval y).cells.toList).run P w = .ok () (w.setCells b off (a.eval y).cells.toList) := by
    have := run_storeCells_cells (P := P) b off (a.eval y).cells.toList 0 w (fun j hj => by
        obtain ⟨u, hu, _, _⟩ := hobj.cell (off + j) (cs[off + j]'(hin j hj)) (by simp)
        simp [hu]) (fun j hj => by
        obtain ⟨u, _, hu, _⟩ := hobj.cell (off + j) (cs[off + j]'(hin j hj)) (by simp)
        simpa using hu)
      (fun u hu => by
        obtain ⟨j, hj⟩ := List.mem_iff_getElem?.1 hu
        have hjl : j < (rd env y).cells.length := by
          have := (List.getElem?_eq_some_iff.1 hj).1
          rw [Array.length_toList, hsz] at this; exact this
        obtain ⟨u', hu', hr⟩ := hcr j ((rd env y).cells[j]) (by simp)
        have : u = u' := by
          have hj' : (a.eval y).cells[j]? = some u := by simpa using hj
          rw [hj'] at hu'; exact Option.some.inj hu'
        subst this
        exact rep_one hr (leaves_get hlv j _ (by simp)))
    simpa using this
  refine ⟨undef, _, g2, _, _, .inr ⟨?_, rfl⟩, hk, h4, e1.trans e2⟩
  have hs2 : (a.eval y).cells.size = inf.size := by rw [hsz, hlen, hs]
  simp [execOp, ho, hv, Instr.storeAt, Instr.sureAddr, storeVar, sizeOf, typeInfo, hinf, hs2, hcells, Sem.run_bind]

end
end Go.Ev

/-! Numbers, strings, truths. -/
namespace Go.Ev
section
variable {P : Program} {X : Cfg} {R : Type} {φ : List Nat} {G : Nat → Nat} {w : World}

theorem InR_fdiv {k : IntKind} {a : Int} (h : InR k a) (m : Nat) : InR k (a.fdiv (2 ^ m)) := by
  have hp : (1 : Int) ≤ 2 ^ m := by
    have := Nat.one_le_two_pow (n := m)
    exact_mod_cast this
  have h0 : (0 : Int) < 2 ^ m := by omega
  rw [Int.fdiv_eq_ediv_of_nonneg _ (by omega)]
  obtain ⟨hl, hh⟩ := h
  have hneg : ∀ x : Int, x < 0 → x ≤ x / 2 ^ m := fun x hx => by
    have h1 : x * 2 ^ m ≤ x * 1 := Int.mul_le_mul_of_nonpos_left (by omega) hp
    have h2 := Int.ediv_le_ediv h0 h1
    rw [Int.mul_ediv_cancel _ (by omega)] at h2
    have h3 : x * 1 / 2 ^ m = x / 2 ^ m := by rw [Int.mul_one]
    omega
  constructor
  · by_cases ha : 0 ≤ a
    · have := Int.ediv_nonneg ha (by omega : (0 : Int) ≤ 2 ^ m)
      have : lo k ≤ 0 := by cases k <;> simp [lo]
      omega
    · exact Int.le_trans hl (hneg a (by omega))
  · by_cases ha : 0 ≤ a
    · exact Int.le_trans (Int.ediv_le_self _ ha) hh
    · have h1 : a / 2 ^ m < 0 := Int.ediv_neg_of_neg_of_pos (by omega) h0
      have : 0 ≤ hi k := by cases k <;> simp [hi]
      omega

theorem InR_tmod {k : IntKind} {a b : Int} (h : InR k a) : InR k (a.tmod b) := by
  obtain ⟨hl, hh⟩ := h
  have h0 : lo k ≤ 0 := by cases k <;> simp [lo]
  have h1 : 0 ≤ hi k := by cases k <;> simp [hi]
  have h2 := Int.natAbs_tmod a b
  have h3 := Nat.mod_le a.natAbs b.natAbs
  by_cases ha : 0 ≤ a
  · have := Int.tmod_nonneg b ha
    exact ⟨by omega, by omega⟩
  · have h4 := Int.tmod_nonneg (a := -a) b (by omega)
    rw [Int.neg_tmod] at h4
    exact ⟨by omega, by omega⟩

/-- What two numbers come to. -/
theorem run_bin_int {op : BinOp} {t : TypeId} {kx : IntKind} {a b : Int} {d : D} {v : Value} (hrun : (binOp op t (.int kx a) (.int kx b)).run P w = .ok v w) :
    (binOp op t (.int kx a) (.int kx b)).run P w = .ok v w := hrun

theorem bits_eq (op : BinOp) (k : IntKind) (a b : Int) (h : op = .and ∨ op = .or ∨ op = .xor ∨ op = .andNot) (w : World) :
    (Op.intBits op k a b).run P w = .ok (.int k (bits op k a b)) w := by
  rcases h with rfl | rfl | rfl | rfl <;> rfl

theorem beq_dec {α : Type} [DecidableEq α] (a b : α) : (a == b) = decide (a = b) := by
  rw [Bool.eq_iff_iff]; simp

def ekB (P : Program) (t : TypeId) (k : EK) : Bool := match P.underlying t, k with
  | some (.int k'), .int k => decide (k' = k)
  | some .bool, .bool => true
  | some .string, .str => true
  | _, _ => false

def eqFB (P : Program) : List Field → Nat → List EK → Bool
  | [], _, [] => true
  | f :: r, o, k :: ks => match Nat.beq f.offset o, f.name == "_", ekB P f.type k with
    | true, false, true => eqFB P r (o + 1) ks
    | _, _, _ => false
  | _, _, _ => false

/-- Structs of numbers, truths and texts alone, in a row. -/
def eqTB (P : Program) (t : TypeId) (ks : List EK) : Bool := match P.underlying t with
  | some (.struct fs) => match P.stoodInHeld t, P.eqGuardType P.depth t with
    | false, false => eqFB P fs.toList 0 ks
    | _, _ => false
  | _ => false

theorem ok_then {α β : Type} (x : α) (w : World) (f : α → World → Result β) : (Result.ok x w).andThen f = f x w := rfl

theorem run_part {t : TypeId} {d : TypeDesc} (hd : P.underlying t = some d) (ha : isAggB d = false) {cs : Array Value} {o : Nat} {v : Value} (h : cs[o]? = some v) : (part t cs o).run P w = .ok v w := by
  simp [part, Sem.run_bind, run_isAgg hd, ha, h]

theorem eqL_cons {a b : D} {r s : List D} {x : Bool} (h : eqL (a :: r) (b :: s) = some x) : ∃ y z, eq1 a b = some y ∧ eqL r s = some z ∧ x = (y && z) := by
  cases r with
  | nil =>
    cases s with
    | nil => simp only [eqL] at h; exact ⟨x, true, h, rfl, by simp⟩
    | cons c s => simp only [eqL] at h; split at h <;> cases h
                  all_goals (rename_i h1 h2; exact ⟨_, _, h1, h2, rfl⟩)
  | cons c r =>
    simp only [eqL] at h
    split at h
    · rename_i h1 h2; cases h; exact ⟨_, _, h1, h2, rfl⟩
    · cases h

theorem beq_bytes (a b : List UInt8) : (({ data := a.toArray } : ByteArray) == { data := b.toArray }) = decide (a = b) := by
  rw [Bool.eq_iff_iff]
  change (a.toArray == b.toArray) = true ↔ _
  simp

theorem eq_loop {φ : List Nat} {G : Nat → Nat} {vs us : Array Value} (n : Nat) : ∀ (fl : List Field) (o : Nat) (ks : List EK) (cs ds : List D) (b : Bool), eqFB P fl o ks = true → kindsB ks cs = true → kindsB ks ds = true →
    (∀ (j : Nat) c, cs[j]? = some c → ∃ v, vs[o + j]? = some v ∧ RepV X φ G w c v) → (∀ (j : Nat) c, ds[j]? = some c → ∃ v, us[o + j]? = some v ∧ RepV X φ G w c v) → eqL cs ds = some b →
    Sem.run P (forIn fl (none, ()) fun f __s =>
            if f.name = "_" then pure (ForInStep.yield (none, ()))
            else do
              let __do_lift ← part f.type vs f.offset
              let __do_lift_1 ← part f.type us f.offset
              let __do_lift ← Op.equalIn (n + 1) f.type __do_lift __do_lift_1
              if __do_lift = false then pure (ForInStep.done (some false, ())) else pure (ForInStep.yield (none, ()))) w = .ok (if b then (none, ()) else (some false, ())) w
  | [], o, ks, cs, ds, b, hf, hc, hd, _, _, hb => by
    cases ks with
    | cons _ _ => simp [eqFB] at hf
    | nil =>
      cases cs with
      | cons _ _ => simp [kindsB] at hc
      | nil =>
        cases ds with
        | cons _ _ => simp [kindsB] at hd
        | nil => simp [eqL] at hb; subst hb; rfl
  | f :: r, o, ks, cs, ds, b, hf, hc, hd, hvs, hus, hb => by
    cases ks with
    | nil => simp [eqFB] at hf
    | cons k ks =>
      unfold eqFB at hf
      split at hf
      · rename_i h1 h2 h3
        have ho := Nat.eq_of_beq_eq_true h1
        have hnm : ¬ f.name = "_" := by intro e; rw [e] at h2; simp at h2
        obtain ⟨c, cs, rfl⟩ : ∃ c r, cs = c :: r := by cases cs with
          | nil => simp [kindsB] at hc
          | cons c r => exact ⟨c, r, rfl⟩
        obtain ⟨d, ds, rfl⟩ : ∃ c r, ds = c :: r := by cases ds with
          | nil => simp [kindsB] at hd
          | cons c r => exact ⟨c, r, rfl⟩
        obtain ⟨y, z, hy, hz, rfl⟩ := eqL_cons hb
        obtain ⟨v, hv, hrv⟩ := hvs 0 c rfl
        obtain ⟨u, hu, hru⟩ := hus 0 d rfl
        rw [Nat.add_zero, ← ho] at hv hu
        have key : kindsB ks cs = true ∧ kindsB ks ds = true ∧ ∃ dd, P.underlying f.type = some dd ∧ isAggB dd = false ∧ (Op.equalIn (n + 1) f.type v u).run P w = .ok y w := by
          unfold ekB at h3
          cases k with
          | int k =>
            split at h3
            · rename_i k' k2 hud he
              have := of_decide_eq_true h3
              cases he
              subst this
              cases c <;> simp only [kindsB] at hc <;> try cases hc
              cases d <;> simp only [kindsB] at hd <;> try cases hd
              split at hc
              · split at hd
                · rename_i e1 _ _ e2 _
                  subst e1; subst e2
                  obtain ⟨rfl, _⟩ := rep_int hrv
                  obtain ⟨rfl, _⟩ := rep_int hru
                  simp only [eq1, if_true] at hy
                  cases hy
                  refine ⟨hc, hd, _, hud, rfl, ?_⟩
                  simp [Op.equalIn, run_underlying hud]
                  rfl
                · cases hd
              · cases hc
            · rename_i he; cases he
            · rename_i he; cases he
            · cases h3
          | bool =>
            split at h3
            · rename_i he; cases he
            · rename_i hud _
              cases c <;> simp only [kindsB] at hc <;> try cases hc
              cases d <;> simp only [kindsB] at hd <;> try cases hd
              have e1 := rep_bool hrv
              have e2 := rep_bool hru
              subst e1; subst e2
              simp only [eq1] at hy
              cases hy
              refine ⟨hc, hd, _, hud, rfl, ?_⟩
              simp [Op.equalIn, run_underlying hud]
            · rename_i he; cases he
            · cases h3
          | str =>
            split at h3
            · rename_i he; cases he
            · rename_i he; cases he
            · rename_i hud _
              cases c <;> simp only [kindsB] at hc <;> try cases hc
              cases d <;> simp only [kindsB] at hd <;> try cases hd
              obtain ⟨rfl, _⟩ := rep_str hrv
              obtain ⟨rfl, _⟩ := rep_str hru
              simp only [eq1] at hy
              cases hy
              refine ⟨hc, hd, _, hud, rfl, ?_⟩
              simp [Op.equalIn, run_underlying hud]
              first
                | rfl
                | (rw [beq_dec]; simp)
                | exact beq_bytes _ _
            · cases h3
        obtain ⟨hc', hd', dd, hud, hagg, hrun⟩ := key
        have ih := eq_loop n r (o + 1) ks cs ds z hf hc' hd' (fun j c hj => by
          have := hvs (j + 1) c (by simpa using hj)
          rw [show o + (j + 1) = o + 1 + j by omega] at this; exact this) (fun j c hj => by
          have := hus (j + 1) c (by simpa using hj)
          rw [show o + (j + 1) = o + 1 + j by omega] at this; exact this) hz
        rw [List.forIn_cons]
        simp only [hnm, if_false, Sem.run_bind, run_part hud hagg hv, run_part hud hagg hu, hrun, ok_then]
        cases y with
        | true =>
          simp only [Bool.true_eq_false, if_false, Sem.run_pure, ok_then, Bool.true_and]
          exact ih
        | false => simp
      · cases hf

theorem eqOk_of {t : TypeId} {ks : List EK} (h : eqTB P t ks = true) (x y : Operand) (op : BinOp) (φ : List Nat) (G : Nat → Nat) (cs ds : List D) (vs us : Array Value) (b : Bool)
    (hc : kindsB ks cs = true) (hd : kindsB ks ds = true) (hv : RepV X φ G w (.agg cs) (.agg vs)) (hu : RepV X φ G w (.agg ds) (.agg us)) (hb : eqL cs ds = some b) :
    (eqGuard op t x y (.agg vs) (.agg us)).run P w = .ok () w ∧ (Op.equal t (.agg vs) (.agg us)).run P w = .ok b w := by
  unfold eqTB at h
  split at h
  · rename_i fs hud
    split at h
    · rename_i h1 h2
      constructor
      · unfold eqGuard
        cases op <;> simp [h2]
      · show (Op.equalIn (9999 + 1) t (.agg vs) (.agg us)).run P w = .ok b w
        unfold Op.equalIn
        simp only [Sem.run_bind, run_underlying hud, ok_then]
        simp [h1]
        cases hv with
        | agg hl1 hr1 =>
          cases hu with
          | agg hl2 hr2 =>
            have := eq_loop (P := P) (X := X) (w := w) (φ := φ) (G := G) (vs := vs) (us := us) 9998 fs.toList 0 ks cs ds b h hc hd (fun j c hj => by
              have hj' := (List.getElem?_eq_some_iff.1 hj).1
              have hjs : j < vs.size := by omega
              refine ⟨vs[j], by simp [hjs], ?_⟩
              have := hr1 j c hj
              simpa [Array.getD, hjs] using this) (fun j c hj => by
              have hj' := (List.getElem?_eq_some_iff.1 hj).1
              have hjs : j < us.size := by omega
              refine ⟨us[j], by simp [hjs], ?_⟩
              have := hr2 j c hj
              simpa [Array.getD, hjs] using this) hb
            rw [← Array.forIn_toList]
            rw [this, ok_then]
            cases b <;> rfl
    · cases h
  · cases h
structure CxOk (P : Program) (X : Cfg) (cx : Cx) : Prop where
  tab : ∀ t e, look cx.tab t = some e → TEok P t e
  eqs : ∀ t ks, look cx.eqs t = some ks → eqTB P t ks = true

theorem any_beq {l : List Nat} {t : Nat} (h : l.any (Nat.beq t) = true) : t ∈ l := by
  obtain ⟨x, hx, he⟩ := List.any_eq_true.1 h
  rw [Nat.eq_of_beq_eq_true he]; exact hx

theorem desc_int {cx : Cx} (hcx : CxOk P X cx) {t : TypeId} {e : TE} (h : look cx.tab t = some e) : ∃ d, P.underlying t = some d ∧ descB P e.d d = true :=
  let ⟨d, hd, _, h2⟩ := (hcx.tab t e h).desc; ⟨d, hd, h2⟩

theorem equal_of {t : TypeId} {x y : Value} {b : Bool} (h : ∀ n, (Op.equalIn (n + 1) t x y).run P w = .ok b w) : (Op.equal t x y).run P w = .ok b w := h 9999

/-- '==' and '!=' of two values, off what 'equal' says. -/
def EqRun (P : Program) (w : World) (t : TypeId) (ox oy : Operand) (vx vy : Value) (b : Bool) : Prop :=
  ((do eqGuard .eql t ox oy vx vy; binOp .eql t vx vy) : Sem Value).run P w = .ok (.bool b) w ∧
    ((do eqGuard .neq t ox oy vx vy; binOp .neq t vx vy) : Sem Value).run P w = .ok (.bool (!b)) w

theorem eqRun_of {t : TypeId} {ox oy : Operand} {vx vy : Value} {b : Bool} (g1 : (eqGuard .eql t ox oy vx vy).run P w = .ok () w) (g2 : (eqGuard .neq t ox oy vx vy).run P w = .ok () w)
    (b1 : binOp .eql t vx vy = (do pure (.bool (← Op.equal t vx vy)) : Sem Value)) (b2 : binOp .neq t vx vy = (do pure (.bool (!(← Op.equal t vx vy))) : Sem Value))
    (he : (Op.equal t vx vy).run P w = .ok b w) : EqRun P w t ox oy vx vy b := by
  constructor
  · rw [b1]; simp [g1, he]
  · rw [b2]; simp [g2, he]

theorem eqNil_sound {t : TypeId} {td : TD} {lit : Bool} {x y : D} {b : Bool} (h : eqNil td lit x y = some b) {vx vy : Value} (hx : RepV X φ G w x vx) (hy : RepV X φ G w y vy)
    {d : TypeDesc} (hd : P.underlying t = some d) (hk : descB P td d = true) (ox oy : Operand) (hlit : lit = (isConstO ox || isConstO oy)) : EqRun P w t ox oy vx vy b := by
  unfold eqNil at h
  split at h
  · obtain ⟨e, rfl⟩ : ∃ e, d = .pointer e := by cases d <;> first | exact ⟨_, rfl⟩ | cases hk
    split at h
    · cases h; cases hx; cases hy
      exact eqRun_of rfl rfl rfl rfl (equal_of fun n => by simp [Op.equalIn, run_underlying hd])
    · cases h; obtain ⟨_, _, rfl⟩ := rep_ptr hx; cases hy
      exact eqRun_of rfl rfl rfl rfl (equal_of fun n => by simp [Op.equalIn, run_underlying hd])
    · cases h; obtain ⟨_, _, rfl⟩ := rep_ptr hy; cases hx
      exact eqRun_of rfl rfl rfl rfl (equal_of fun n => by simp [Op.equalIn, run_underlying hd])
    · cases h; obtain ⟨_, _, _, rfl, _⟩ := rep_box hx; cases hy
      exact eqRun_of rfl rfl rfl rfl (equal_of fun n => by simp [Op.equalIn, run_underlying hd])
    · cases h; obtain ⟨_, _, _, rfl, _⟩ := rep_box hy; cases hx
      exact eqRun_of rfl rfl rfl rfl (equal_of fun n => by simp [Op.equalIn, run_underlying hd])
    · cases h
  · obtain ⟨e, rfl⟩ : ∃ e, d = .slice e := by cases d <;> first | exact ⟨_, rfl⟩ | cases hk
    split at h
    · cases h; cases hx; cases hy
      exact eqRun_of rfl rfl rfl rfl (equal_of fun n => by simp [Op.equalIn, run_underlying hd])
    · cases h
      obtain ⟨a, cap, rfl⟩ := rep_slice_form hx
      rcases rep_slice_inv hx with ⟨_, _, _, _, h0⟩ | ⟨_, ⟨p, rfl⟩, _⟩ | ⟨b, off, vs, rfl, _⟩
      · exact absurd rfl h0
      · cases hy
        exact eqRun_of rfl rfl rfl rfl (equal_of fun n => by simp [Op.equalIn, run_underlying hd])
      · cases hy
        exact eqRun_of rfl rfl rfl rfl (equal_of fun n => by simp [Op.equalIn, run_underlying hd])
    · cases h
      obtain ⟨a, cap, rfl⟩ := rep_slice_form hx
      rcases rep_slice_inv hx with ⟨h0, _⟩ | ⟨h0, _⟩ | ⟨b, off, vs, rfl, _⟩
      · cases h0
      · cases h0
      · cases hy
        exact eqRun_of rfl rfl rfl rfl (equal_of fun n => by simp [Op.equalIn, run_underlying hd])
    · cases h
  · obtain ⟨p, r, v, rfl⟩ : ∃ p r v, d = .func p r v := by cases d <;> first | exact ⟨_, _, _, rfl⟩ | cases hk
    split at h
    · cases h; cases hx; cases hy
      exact eqRun_of rfl rfl rfl rfl (equal_of fun n => by simp [Op.equalIn, run_underlying hd])
    · cases h; cases hx; cases hy
      exact eqRun_of rfl rfl rfl rfl (equal_of fun n => by simp [Op.equalIn, run_underlying hd])
    · cases h
  · obtain ⟨ms, rfl⟩ : ∃ ms, d = .interface ms := by cases d <;> first | exact ⟨_, rfl⟩ | cases hk
    split at h
    · cases h
      cases hy
      have hc : isConstO ox = true ∨ isConstO oy = true := by
        have := hlit.symm; simpa using this
      cases hx with
      | errNil =>
        have hg : ∀ op, op = .eql ∨ op = .neq → (eqGuard op t ox oy .nilIface .nilIface).run P w = .ok () w := by
          intro op hop
          rcases hc with hc | hc
          · cases ox <;> first | (rcases hop with rfl | rfl <;> rfl) | cases hc
          · cases oy <;> first | (cases ox <;> rcases hop with rfl | rfl <;> rfl) | cases hc
        exact eqRun_of (hg _ (.inl rfl)) (hg _ (.inr rfl)) rfl rfl (equal_of fun n => by simp [Op.equalIn, run_underlying hd, Err.isNil])
      | errOther t v => exact eqRun_of rfl rfl rfl rfl (equal_of fun n => by simp [Op.equalIn, run_underlying hd, Err.isNil])
      | errFault => exact eqRun_of rfl rfl rfl rfl (equal_of fun n => by simp [Op.equalIn, run_underlying hd, Err.isNil])
      | errJoined => exact eqRun_of rfl rfl rfl rfl (equal_of fun n => by simp [Op.equalIn, run_underlying hd, Err.isNil])
    · cases h
  · cases h

theorem str_toList (a : List UInt8) : (⟨a.toArray⟩ : ByteArray).toList = a := by
  rw [ByteArray.toList_eq]

theorem eqD_sound {cx : Cx} (hcx : CxOk P X cx) {t : TypeId} {lit : Bool} {x y : D} {b : Bool} (h : eqD cx t lit x y = some b) {vx vy : Value} (hx : RepV X φ G w x vx) (hy : RepV X φ G w y vy)
    (ox oy : Operand) (hlit : lit = (isConstO ox || isConstO oy)) : EqRun P w t ox oy vx vy b := by
  unfold eqD at h
  split at h
  · split at h
    · rename_i e; subst e; cases h
      obtain ⟨rfl, _⟩ := rep_int hx; obtain ⟨rfl, _⟩ := rep_int hy
      constructor <;> simp [eqGuard, binOp, Op.intCmp, bne] <;> rfl
    · cases h
  · cases h
    obtain ⟨rfl, _⟩ := rep_str hx; obtain ⟨rfl, _⟩ := rep_str hy
    constructor <;> simp [eqGuard, binOp, Op.stringOp] <;> (rw [Bool.eq_iff_iff]; simp)
  · split at h
    · rename_i e he
      cases h
      obtain ⟨d, hd, hk⟩ := desc_int hcx he
      obtain rfl : d = .bool := by cases d <;> first | rfl | cases hk
      rw [rep_bool hx, rep_bool hy]
      exact eqRun_of rfl rfl rfl rfl (equal_of fun n => by simp [Op.equalIn, run_underlying hd])
    · cases h
  · split at h
    · rename_i ks hks
      split at h
      · rename_i hka hkb
        have he := hcx.eqs t ks hks
        cases hx with
        | agg h1 h2 =>
          cases hy with
          | agg h3 h4 =>
            obtain ⟨g1, g2⟩ := eqOk_of (X := X) (w := w) he ox oy .eql φ G _ _ _ _ b hka hkb (.agg h1 h2) (.agg h3 h4) h
            obtain ⟨g3, _⟩ := eqOk_of (X := X) (w := w) he ox oy .neq φ G _ _ _ _ b hka hkb (.agg h1 h2) (.agg h3 h4) h
            exact eqRun_of g1 g3 rfl rfl g2
      · cases h
    · cases h
  · split at h
    · rename_i e he
      obtain ⟨d, hd, hk⟩ := desc_int hcx he
      exact eqNil_sound h hx hy hd hk ox oy hlit
    · cases h

theorem less_or_eq : ∀ (a b : List UInt8), (Op.bytesLess a b || (a == b)) = !Op.bytesLess b a
  | [], [] => rfl
  | [], _ :: _ => rfl
  | _ :: _, [] => rfl
  | x :: a, y :: b => by
    have ih := less_or_eq a b
    simp only [Op.bytesLess]
    by_cases h : x = y
    · subst h
      have hx : decide (x < x) = false := by simp
      simp only [hx, Bool.false_or, beq_self_eq_true, Bool.true_and]
      rw [← ih]; congr 1; rw [Bool.eq_iff_iff]; simp
    · have h1 : (x == y) = false := by simp [h]
      have h2 : (y == x) = false := by simp [Ne.symm h]
      have h3 : (x :: a == y :: b) = false := by simp [h]
      rw [h1, h2, h3]
      simp only [Bool.false_and, Bool.or_false]
      rw [Bool.eq_iff_iff]; simp [UInt8.lt_iff_toNat_lt]
      have : x.toNat ≠ y.toNat := fun e => h (UInt8.toNat_inj.1 e)
      omega

theorem room_le {b n : Nat} (h : room b n = true) : n * b ≤ 140737488355328 := of_decide_eq_true h

/-- An operation of two. -/
theorem binK_sound {cx : Cx} (hcx : CxOk P X cx) {op : BinOp} {t : TypeId} {lit : Bool} {x y : D} {k : D → Option R} {r : R} (h : binK cx op t lit x y k = some r) {vx vy : Value}
    (hx : RepV X φ G w x vx) (hy : RepV X φ G w y vy) (ox oy : Operand) (hlit : lit = (isConstO ox || isConstO oy)) :
    ∃ d v, k d = some r ∧ d.free = true ∧ RepV X φ G w d v ∧ ((do eqGuard op t ox oy vx vy; binOp op t vx vy) : Sem Value).run P w = .ok v w := by
  cases op <;> simp only [binK] at h
  · split at h
    · split at h
      · rename_i e; subst e
        obtain ⟨rfl, h1⟩ := rep_int hx; obtain ⟨rfl, h2⟩ := rep_int hy
        exact ⟨_, _, h, rfl, .int (InR_wrap _ _), by simp [eqGuard, binOp, Op.intArith]⟩
      · cases h
    · rename_i a b
      split at h
      · rename_i hr
        obtain ⟨rfl, h1⟩ := rep_str hx; obtain ⟨rfl, h2⟩ := rep_str hy
        have := room_le hr
        have hsz : ((⟨a.toArray⟩ : ByteArray) ++ ⟨b.toArray⟩).size = a.length + b.length := by rw [ByteArray.size_append]; rfl
        refine ⟨_, .string (⟨a.toArray⟩ ++ ⟨b.toArray⟩), h, rfl, ?_, ?_⟩
        · have e : (a ++ b) = ((⟨a.toArray⟩ : ByteArray) ++ ⟨b.toArray⟩).data.toList := by simp [ByteArray.data_append]
          rw [e]
          exact .str _ (by omega)
        · have e : ¬ (((⟨a.toArray⟩ : ByteArray).size + (⟨b.toArray⟩ : ByteArray).size : Nat) : Int) > IntKind.i64.max := by
            have h1 : (⟨a.toArray⟩ : ByteArray).size = a.length := rfl
            have h2 : (⟨b.toArray⟩ : ByteArray).size = b.length := rfl
            rw [h1, h2]
            have h3 : IntKind.i64.max = 9223372036854775807 := by decide
            rw [h3]; omega
          simp only [binOp, Op.stringOp, if_neg e]
          rfl
      · cases h
    · cases h
  · split at h
    · split at h
      · rename_i e; subst e
        obtain ⟨rfl, h1⟩ := rep_int hx; obtain ⟨rfl, h2⟩ := rep_int hy
        exact ⟨_, _, h, rfl, .int (InR_wrap _ _), by simp [eqGuard, binOp, Op.intArith]⟩
      · cases h
    · cases h
  · split at h
    · split at h
      · rename_i e; subst e
        obtain ⟨rfl, h1⟩ := rep_int hx; obtain ⟨rfl, h2⟩ := rep_int hy
        exact ⟨_, _, h, rfl, .int (InR_wrap _ _), by simp [eqGuard, binOp, Op.intArith]⟩
      · cases h
    · cases h
  · split at h
    · split at h
      · rename_i e; subst e
        obtain ⟨rfl, h1⟩ := rep_int hx; obtain ⟨rfl, h2⟩ := rep_int hy
        split at h
        · cases h
        · rename_i hb
          have hb0 := of_decide_eq_false hb
          exact ⟨_, _, h, rfl, .int (InR_wrap _ _), by simp [eqGuard, binOp, Op.intDiv, hb0]⟩
      · cases h
    · cases h
  · split at h
    · split at h
      · rename_i e; subst e
        obtain ⟨rfl, h1⟩ := rep_int hx; obtain ⟨rfl, h2⟩ := rep_int hy
        split at h
        · cases h
        · rename_i hb
          have hb0 := of_decide_eq_false hb
          exact ⟨_, _, h, rfl, .int (InR_tmod h1), by simp [eqGuard, binOp, Op.intDiv, hb0]⟩
      · cases h
    · cases h
  · split at h
    · split at h
      · rename_i e; subst e
        obtain ⟨rfl, h1⟩ := rep_int hx; obtain ⟨rfl, h2⟩ := rep_int hy
        exact ⟨_, _, h, rfl, .int (by unfold bits; exact InR_wrap _ _), by simp [eqGuard, binOp, Op.intBits, bits]⟩
      · cases h
    · cases h
  · split at h
    · split at h
      · rename_i e; subst e
        obtain ⟨rfl, h1⟩ := rep_int hx; obtain ⟨rfl, h2⟩ := rep_int hy
        exact ⟨_, _, h, rfl, .int (by unfold bits; exact InR_wrap _ _), by simp [eqGuard, binOp, Op.intBits, bits]⟩
      · cases h
    · cases h
  · split at h
    · split at h
      · rename_i e; subst e
        obtain ⟨rfl, h1⟩ := rep_int hx; obtain ⟨rfl, h2⟩ := rep_int hy
        exact ⟨_, _, h, rfl, .int (by unfold bits; exact InR_wrap _ _), by simp [eqGuard, binOp, Op.intBits, bits]⟩
      · cases h
    · cases h
  · split at h
    · rename_i kx a ky b
      split at h
      · rename_i hb
        obtain ⟨rfl, h1⟩ := rep_int hx; obtain ⟨rfl, h2⟩ := rep_int hy
        have hb0 : ¬ b < 0 := by have := of_decide_eq_true hb; omega
        exact ⟨_, _, h, rfl, .int (InR_wrap _ _), by simp [eqGuard, binOp, Op.shift, hb0, shl]⟩
      · cases h
    · cases h
  · split at h
    · rename_i kx a ky b
      split at h
      · rename_i hb
        obtain ⟨rfl, h1⟩ := rep_int hx; obtain ⟨rfl, h2⟩ := rep_int hy
        have hb0 : ¬ b < 0 := by have := of_decide_eq_true hb; omega
        exact ⟨_, _, h, rfl, .int (InR_fdiv h1 _), by simp [eqGuard, binOp, Op.shift, hb0, shr]⟩
      · cases h
    · cases h
  · split at h
    · split at h
      · rename_i e; subst e
        obtain ⟨rfl, h1⟩ := rep_int hx; obtain ⟨rfl, h2⟩ := rep_int hy
        exact ⟨_, _, h, rfl, .int (by unfold bits; exact InR_wrap _ _), by simp [eqGuard, binOp, Op.intBits, bits]⟩
      · cases h
    · cases h
  · split at h
    · rename_i b hb; exact ⟨_, _, h, rfl, .bool _, (eqD_sound hcx hb hx hy ox oy hlit).1⟩
    · cases h
  · split at h
    · rename_i b hb; exact ⟨_, _, h, rfl, .bool _, (eqD_sound hcx hb hx hy ox oy hlit).2⟩
    · cases h
  · split at h
    · split at h
      · rename_i e; subst e
        obtain ⟨rfl, h1⟩ := rep_int hx; obtain ⟨rfl, h2⟩ := rep_int hy
        exact ⟨_, _, h, rfl, .bool _, by simp [eqGuard, binOp, Op.intCmp]⟩
      · cases h
    · obtain ⟨rfl, h1⟩ := rep_str hx; obtain ⟨rfl, h2⟩ := rep_str hy
      exact ⟨_, _, h, rfl, .bool _, by simp [eqGuard, binOp, Op.stringOp, ByteArray.toList_eq, less_or_eq]⟩
    · cases h
  · split at h
    · split at h
      · rename_i e; subst e
        obtain ⟨rfl, h1⟩ := rep_int hx; obtain ⟨rfl, h2⟩ := rep_int hy
        exact ⟨_, _, h, rfl, .bool _, by simp [eqGuard, binOp, Op.intCmp]⟩
      · cases h
    · obtain ⟨rfl, h1⟩ := rep_str hx; obtain ⟨rfl, h2⟩ := rep_str hy
      exact ⟨_, _, h, rfl, .bool _, by simp [eqGuard, binOp, Op.stringOp, ByteArray.toList_eq, less_or_eq]⟩
    · cases h
  · split at h
    · split at h
      · rename_i e; subst e
        obtain ⟨rfl, h1⟩ := rep_int hx; obtain ⟨rfl, h2⟩ := rep_int hy
        exact ⟨_, _, h, rfl, .bool _, by simp [eqGuard, binOp, Op.intCmp]⟩
      · cases h
    · obtain ⟨rfl, h1⟩ := rep_str hx; obtain ⟨rfl, h2⟩ := rep_str hy
      exact ⟨_, _, h, rfl, .bool _, by simp [eqGuard, binOp, Op.stringOp, ByteArray.toList_eq, less_or_eq]⟩
    · cases h
  · split at h
    · split at h
      · rename_i e; subst e
        obtain ⟨rfl, h1⟩ := rep_int hx; obtain ⟨rfl, h2⟩ := rep_int hy
        exact ⟨_, _, h, rfl, .bool _, by simp [eqGuard, binOp, Op.intCmp]⟩
      · cases h
    · obtain ⟨rfl, h1⟩ := rep_str hx; obtain ⟨rfl, h2⟩ := rep_str hy
      exact ⟨_, _, h, rfl, .bool _, by simp [eqGuard, binOp, Op.stringOp, ByteArray.toList_eq, less_or_eq]⟩
    · cases h

theorem unK_sound {op : UnOp} {x : D} {k : D → Option R} {r : R} (h : unK op x k = some r) {vx : Value} (hx : RepV X φ G w x vx) :
    ∃ d v, k d = some r ∧ d.free = true ∧ RepV X φ G w d v ∧ (Op.unary op vx).run P w = .ok v w := by
  unfold unK at h
  split at h
  · obtain ⟨rfl, h1⟩ := rep_int hx
    exact ⟨_, _, h, rfl, .int (InR_wrap _ _), rfl⟩
  · rw [rep_bool hx]
    exact ⟨_, _, h, rfl, .bool _, rfl⟩
  · obtain ⟨rfl, h1⟩ := rep_int hx
    exact ⟨_, _, h, rfl, .int (by unfold bits; exact InR_wrap _ _), rfl⟩
  · cases h

end
end Go.Ev

/-! Appends. -/
namespace Go.Ev
section
variable {P : Program} {X : Cfg} {R : Type} {φ : List Nat} {G : Nat → Nat} {w : World}

theorem cells_leaf : ∀ (t : Ty) (x : t.den) (j : Nat) c, (cells t x)[j]? = some c → c.leaf = true
  | .int _, _, j, c, h | .byte, _, j, c, h | .bool, _, j, c, h | .str, _, j, c, h | .err, _, j, c, h | .slice _, _, j, c, h => by
    cases j <;> simp [cells] at h; subst h; rfl
  | .unit, _, j, c, h => by simp [cells] at h
  | .ex, e, j, c, h => by
    have : c ∈ cells .ex e := List.mem_of_getElem? h
    simp [cells] at this
    rcases this with rfl | rfl | rfl | rfl | rfl | rfl | rfl | rfl | rfl | rfl <;> rfl
  | .pair a b, x, j, c, h => by
    have hm : c ∈ cells (.pair a b) x := List.mem_of_getElem? h
    simp only [cells, List.mem_append] at hm
    rcases hm with hm | hm
    · obtain ⟨i, hi⟩ := List.mem_iff_getElem?.1 hm; exact cells_leaf a x.1 i c hi
    · obtain ⟨i, hi⟩ := List.mem_iff_getElem?.1 hm; exact cells_leaf b x.2 i c hi

theorem idx_split {n sz j : Nat} (h : j < n * sz) : j / sz < n ∧ j % sz < sz ∧ j / sz * sz + j % sz = j := by
  have hsz : 0 < sz := by
    rcases Nat.eq_zero_or_pos sz with e | e
    · subst e; simp at h
    · exact e
  exact ⟨(Nat.div_lt_iff_lt_mul hsz).2 h, Nat.mod_lt _ hsz, by rw [Nat.mul_comm]; exact Nat.div_add_mod j sz⟩

/-- Row of cells: what an append or a copy lays down. -/
structure RowOk (X : Cfg) (φ : List Nat) (G : Nat → Nat) (w : World) (t : Ty) (l : List t.den) (news : List Value) : Prop where
  len : news.length = l.length * t.size
  rep : ∀ (i : Nat) x, l[i]? = some x → ∀ (j : Nat) c, (cells t x)[j]? = some c → ∃ u, news[i * t.size + j]? = some u ∧ RepV X φ G w c u

theorem RowOk.one {t : Ty} {l : List t.den} {news : List Value} (h : RowOk X φ G w t l news) : ∀ u ∈ news, u.oneCell' = true := by
  intro u hu
  obtain ⟨j, hj⟩ := List.mem_iff_getElem?.1 hu
  have hjl := (List.getElem?_eq_some_iff.1 hj).1
  rw [h.len] at hjl
  obtain ⟨h1, h2, h3⟩ := idx_split hjl
  have hcl : j % t.size < (cells t l[j / t.size]).length := by rw [cells_length]; exact h2
  obtain ⟨u', hu', hr⟩ := h.rep (j / t.size) _ (List.getElem?_eq_getElem h1) (j % t.size) _ (List.getElem?_eq_getElem hcl)
  rw [h3, hj] at hu'; cases hu'
  exact rep_one hr (cells_leaf t _ _ _ (List.getElem?_eq_getElem hcl))

theorem range_get {α : Type} (f : Nat → α) {n j : Nat} (h : j < n) : ((List.range n).map f)[j]? = some (f j) := by simp [h]

theorem row_of_sl {m : Md} {t : Ty} {l : List t.den} {a : Option Addr} {len cap : Nat} (h : RepV X φ G w (.sl m t l) (.slice a len cap)) :
    len = l.length ∧ ∃ news, RowOk X φ G w t l news ∧ ∀ w', (∀ b o, o < G b → w'.cell? ⟨b, o, none⟩ = w.cell? ⟨b, o, none⟩) → (Builtin.firstCells t.size len (.slice a len cap)).run P w' = .ok news.toArray w' := by
  rcases rep_slice_inv h with ⟨rfl, rfl, rfl, rfl, _⟩ | ⟨rfl, ⟨p, rfl⟩, rfl, _⟩ | ⟨b, off, vs, rfl, rfl, hlen, _, hmax, hp, hc, hr⟩
  · exact ⟨rfl, [], ⟨by simp, fun i x hx => by simp at hx⟩, fun w' _ => rfl⟩
  · refine ⟨rfl, [], ⟨by simp, fun i x hx => by simp at hx⟩, fun w' _ => ?_⟩
    have := run_firstCells_some (P := P) w' t.size 0 p 0 cap [] (by simp) (fun j v hv => by simp at hv)
    simpa using this
  · refine ⟨rfl, (List.range (l.length * t.size)).map vs, ⟨by simp, fun i x hx j c hc' => ?_⟩, fun w' hw' => ?_⟩
    · have hi := (List.getElem?_eq_some_iff.1 hx).1
      have hj : j < t.size := by rw [← cells_length t x]; exact (List.getElem?_eq_some_iff.1 hc').1
      exact ⟨_, range_get vs (cell_idx hi hj), hr i x hx j c hc'⟩
    · refine run_firstCells_some (P := P) w' t.size l.length ⟨b, off, none⟩ l.length cap _ (by simp) (fun j v hv => ?_)
      have hj : j < l.length * t.size := by have := (List.getElem?_eq_some_iff.1 hv).1; simpa using this
      rw [range_get vs hj] at hv
      rw [Addr.add_mid, hw' _ _ (by omega), hc j hj]; exact hv

theorem tail_sound {t : Ty} {y : D} {l : List t.den} (h : tailOf t y = some l) {vy : Value} (hy : RepV X φ G w y vy) :
    ∃ news, RowOk X φ G w t l news ∧ (∀ w', (Builtin.lenOf vy).run P w' = .ok l.length w') ∧
      ∀ w', (∀ b o, o < G b → w'.cell? ⟨b, o, none⟩ = w.cell? ⟨b, o, none⟩) → (Builtin.firstCells t.size l.length vy).run P w' = .ok news.toArray w' := by
  unfold tailOf at h
  split at h
  · obtain ⟨e, rfl⟩ := castL_some h
    subst e
    obtain ⟨a, cap, rfl⟩ := rep_slice_form hy
    obtain ⟨_, news, h1, h2⟩ := row_of_sl (P := P) hy
    exact ⟨news, h1, fun w' => rfl, h2⟩
  · cases h; cases hy
    exact ⟨[], ⟨by simp, fun i x hx => by simp at hx⟩, fun _ => rfl, fun _ _ => rfl⟩
  · obtain ⟨e, rfl⟩ := castL_some h
    subst e
    rename_i s
    obtain ⟨rfl, hs⟩ := rep_str hy
    refine ⟨s.map fun b => .int .u8 (b.toNat : Int), ⟨by simp [Ty.size], fun i x hx j c hc => ?_⟩, fun _ => rfl, fun w' _ => ?_⟩
    · cases j with
      | zero =>
        simp [cells] at hc
        subst hc
        refine ⟨.int .u8 (x.toNat : Int), by simp [Ty.size, hx], .int ?_⟩
        have := x.toNat_lt
        simp only [InR, lo, hi]; omega
      | succ j => simp [cells] at hc
    · have e : (⟨s.toArray⟩ : ByteArray).extract 0 s.length = ⟨s.toArray⟩ := by
        have : s.length = (⟨s.toArray⟩ : ByteArray).size := rfl
        rw [this, ByteArray.extract_zero_size]
      show (pure (((⟨s.toArray⟩ : ByteArray).extract 0 s.length).data.map fun b => Value.int .u8 b.toNat) : Sem (Array Value)).run P w' = _
      rw [e]
      simp
  · cases h

theorem run_append_room {t t2 ty e : TypeId} {i : TypeInfo} (ht : P.underlying t = some (.slice e)) {d2 : TypeDesc} (ht2 : P.underlying t2 = some d2) (hd2 : (∃ e2, d2 = .slice e2) ∨ d2 = .string) (hi : P.info? e = some i)
    {b off sLen sCap m : Nat} {x : Value} {news : List Value} (hx : (Builtin.lenOf x).run P w = .ok m w) (hf : (Builtin.firstCells i.size m x).run P w = .ok news.toArray w) (hl : news.length = m * i.size) (h1 : ∀ u ∈ news, u.oneCell' = true)
    (hroom : sLen + m ≤ sCap) (hc : ∀ j, j < news.length → (w.cell? ⟨b, off + sLen * i.size + j, none⟩).isSome = true) (hz : ∀ j, j < news.length → w.frozen? ⟨b, off + sLen * i.size + j, none⟩ = false) :
    (Builtin.append_ #[t, t2] ty #[.slice (some ⟨b, off, none⟩) sLen sCap, x]).run P w = .ok (.slice (some ⟨b, off, none⟩) (sLen + m) sCap) (w.setCells b (off + sLen * i.size) news) := by
  have hst := run_storeCells_cells (P := P) b (off + sLen * i.size) news 0 w (by simpa using hc) (by simpa using hz) h1
  simp only [Nat.add_zero] at hst
  rcases hd2 with ⟨e2, rfl⟩ | rfl <;> simp [Builtin.append_, run_underlying ht, run_underlying ht2, sizeOf, typeInfo, hi, hx, hroom, hf, Addr.add_lit, hst]

theorem run_append_more {t t2 ty e : TypeId} {i : TypeInfo} {z : Value} (ht : P.underlying t = some (.slice e)) {d2 : TypeDesc} (ht2 : P.underlying t2 = some d2) (hd2 : (∃ e2, d2 = .slice e2) ∨ d2 = .string) (hi : P.info? e = some i) (hz : i.zero = some z)
    {base : Option Addr} {sLen sCap m : Nat} {x : Value} {olds news : List Value} (hx : (Builtin.lenOf x).run P w = .ok m w) (hf : (Builtin.firstCells i.size m x).run P w.drew = .ok news.toArray w.drew)
    (hfo : (Builtin.firstCells i.size sLen (.slice base sLen sCap)).run P w.drew = .ok olds.toArray w.drew)
    (hg : sCap < sLen + m) (h63 : ((sLen + m : Nat) : Int) ≤ 9223372036854775807) (hfit : Builtin.nextslicecap (sLen + m) sCap * i.bytes ≤ 281474976710656) :
    (Builtin.append_ #[t, t2] ty #[.slice base sLen sCap, x]).run P w = .ok (.slice (some ⟨w.heap.size, 0, none⟩) (sLen + m) (grownCap w (sLen + m) sCap e))
      (w.drew.alloc (.cells (olds.toArray ++ news.toArray ++ Builtin.zeroCells z.cells (grownCap w (sLen + m) sCap e - (sLen + m))) e)) := by
  have hn : ¬ (sLen + m ≤ sCap) := by omega
  have h63' : ¬ (9223372036854775807 < ((sLen : Int) + (m : Int))) := by omega
  have h48' : ¬ (281474976710656 < Builtin.nextslicecap (sLen + m) sCap * i.bytes) := by omega
  rcases hd2 with ⟨e2, rfl⟩ | rfl
  all_goals
    simp [Builtin.append_, run_underlying ht, run_underlying ht2, sizeOf, typeInfo, zeroValue, hi, hz, hx, hn, h63', h48', Question.forced, hf, hfo, newRow, grownCap]
    congr 2
    apply Array.ext'
    simp [List.append_assoc]

end
end Go.Ev

/-! Appends: the operation. -/
namespace Go.Ev
section
variable {P : Program} {X : Cfg} {R : Type} {φ : List Nat} {G : Nat → Nat} {w : World}

theorem RowOk.append {t : Ty} {l l2 : List t.den} {o n : List Value} (h1 : RowOk X φ G w t l o) (h2 : RowOk X φ G w t l2 n) : RowOk X φ G w t (l ++ l2) (o ++ n) := by
  refine ⟨by simp [h1.len, h2.len, Nat.add_mul], fun i x hx j c hc => ?_⟩
  have hj : j < t.size := by rw [← cells_length t x]; exact (List.getElem?_eq_some_iff.1 hc).1
  by_cases hi : i < l.length
  · rw [List.getElem?_append_left hi] at hx
    obtain ⟨u, hu, hr⟩ := h1.rep i x hx j c hc
    exact ⟨u, by rw [List.getElem?_append_left (List.getElem?_eq_some_iff.1 hu).1]; exact hu, hr⟩
  · rw [List.getElem?_append_right (by omega)] at hx
    obtain ⟨u, hu, hr⟩ := h2.rep _ x hx j c hc
    have hm : l.length * t.size ≤ i * t.size := Nat.mul_le_mul_right _ (by omega)
    refine ⟨u, ?_, hr⟩
    rw [List.getElem?_append_right (by rw [h1.len]; omega), h1.len]
    rw [Nat.sub_mul] at hu
    rw [show i * t.size + j - l.length * t.size = i * t.size - l.length * t.size + j by omega]
    exact hu

theorem RowOk.mono {t : Ty} {l : List t.den} {n : List Value} (h : RowOk X φ G w t l n) {w' : World} (hw : ∀ b o, o < G b → w'.cell? ⟨b, o, none⟩ = w.cell? ⟨b, o, none⟩) : RowOk X φ G w' t l n :=
  ⟨h.len, fun i x hx j c hc => let ⟨u, hu, hr⟩ := h.rep i x hx j c hc; ⟨u, hu, hr.mono (fun _ _ h => h) (fun _ => Nat.le_refl _) hw⟩⟩

/-- A value that is no slice over memory comes to hand. -/
theorem Sim.pushN {g env vals sto} (h : Sim X g w env vals sto) (d : D) (v : Value) (hr : RepV X g.φ g.G w d v) (hl : d.leaf = true) (hv : ∀ a len cap, v ≠ .slice (some a) len cap) :
    Sim X g w (env ++ [d]) (vals ++ [v]) sto := by
  have h1 := h.push .any v (.any v) rfl
  refine h1.re_id (by simp [h.len]) ?_ ?_
  · intro t d' v' hd hv'
    rcases getElem?_snoc hd with ⟨hl, hd⟩ | ⟨rfl, rfl⟩
    · rw [List.getElem?_append_left (h.len ▸ hl)] at hv'; exact h.rep t d' v' hd hv'
    · rw [h.len] at hv'; simp at hv'; subst hv'; exact hr
  · intro ℓ md ty l a len cap ho hmd
    cases ℓ with
    | env t j =>
      by_cases ht : t < env.length
      · exact ho.shift (by rw [List.getElem?_append_left ht, List.getElem?_append_left ht]) rfl
      · have he : t = env.length := by have := ho.lt; simp at this; omega
        subst he
        exfalso
        generalize hℓ : Loc.env env.length j = ℓ at ho
        generalize hx : D.sl md ty l = x at ho
        generalize hy : Value.slice (some a) len cap = y at ho
        cases ho with
        | leaf hd hv' => cases hℓ; rw [h.len] at hv'; simp at hv'; subst hv'; exact hv _ _ _ hy.symm
        | agg hd hv' hj' he => cases hℓ; simp at hd; subst hd; cases hl
        | tup hd hv' hj' he => cases hℓ; simp at hd; subst hd; cases hl
        | cell => cases hℓ
    | obj i => exact ho.not_obj.elim
    | cell i j => exact ho.of_slot (fun _ _ h => by cases h)

/-- Where an append grows. -/
theorem append_more {g env vals sto} (hs : Sim X g w env vals sto) {st t2 ty e : TypeId} {te : TE} {et : Ty} (hst : P.underlying st = some (.slice e)) {d2 : TypeDesc} (ht2 : P.underlying t2 = some d2)
    (hd2 : (∃ e2, d2 = .slice e2) ∨ d2 = .string) (hte : TEok P e te) (hty : te.ty = some et) {l l' : List et.den} {base : Option Addr} {cap : Nat} {vy : Value} {olds news : List Value}
    (ho : RowOk X g.φ g.G w et l olds) (hn : RowOk X g.φ g.G w et l' news)
    (hfo : ∀ w', (∀ b o, o < g.G b → w'.cell? ⟨b, o, none⟩ = w.cell? ⟨b, o, none⟩) → (Builtin.firstCells et.size l.length (.slice base l.length cap)).run P w' = .ok olds.toArray w')
    (hlen : ∀ w', (Builtin.lenOf vy).run P w' = .ok l'.length w')
    (hf : ∀ w', (∀ b o, o < g.G b → w'.cell? ⟨b, o, none⟩ = w.cell? ⟨b, o, none⟩) → (Builtin.firstCells et.size l'.length vy).run P w' = .ok news.toArray w')
    (hg : cap < l.length + l'.length) (hroom : room te.bytes (l.length + l'.length) = true) :
    ∃ v w' g', (Builtin.append_ #[st, t2] ty #[.slice base l.length cap, vy]).run P w = .ok v w' ∧ Sim X g' w' (env ++ [.sl .own et (l ++ l')]) (vals ++ [v]) sto ∧ Ext g w g' w' := by
  obtain ⟨i, z, hi, hsz, hby, hz, hzl⟩ := hte.info
  obtain ⟨hts, hta, h1s, h1b⟩ := hte.ty et hty
  have hr := room_le hroom
  have hise : i.size = et.size := hsz.trans hts.symm
  have hle : l.length + l'.length ≤ 140737488355328 := Nat.le_trans (Nat.le_mul_of_pos_right _ h1b) hr
  have hfit := growslice_fits hg hr
  rw [← hby] at hfit
  have hrun := run_append_more (P := P) (w := w) (ty := ty) (base := base) (sCap := cap) (sLen := l.length) (m := l'.length) (x := vy) (olds := olds) (news := news) hst ht2 hd2 hi hz (hlen w)
    (by rw [hise]; exact hf w.drew (fun _ _ _ => rfl)) (by rw [hise]; exact hfo w.drew (fun _ _ _ => rfl)) hg (by omega) hfit
  have hrow := (ho.append hn)
  have hzs : z.cells.size = et.size := by
    have := (zeroL_spec hzl).1
    rw [hte.zlen] at this; rw [← Array.length_toList, this, hts]
  have hge := grownCap_ge w (l.length + l'.length) cap e
  have hcm : grownCap w (l.length + l'.length) cap e ≤ maxLen := grownCap_le_maxLen w _ cap e (by unfold maxLen; omega)
  have hlo := ho.len
  have hln := hn.len
  obtain ⟨g', h2, e2⟩ := (hs.alike (Alike.drew w)).newOwn (t := et) (l := l ++ l') (olds.toArray ++ news.toArray ++ Builtin.zeroCells z.cells (grownCap w (l.length + l'.length) cap e - (l.length + l'.length))) e (0, 0)
    (grownCap w (l.length + l'.length) cap e) (fun j => (olds ++ news).getD j undef)
    (fun j hj => by
      rw [← hrow.len] at hj
      have hj2 : j < (olds.toArray ++ news.toArray).size := by simpa using hj
      rw [Array.getElem?_append_left hj2]
      simp only [List.append_toArray, List.getElem?_toArray]
      rw [List.getElem?_eq_getElem hj]; simp only [List.getD, List.getElem?_eq_getElem hj]; rfl)
    (fun ii x hx j c hc => by
      obtain ⟨u, hu, hr⟩ := hrow.rep ii x hx j c hc
      have : (olds ++ news).getD (ii * et.size + j) undef = u := by simp only [List.getD, hu]; rfl
      rw [this]; exact RepV.mono (w := w) (w' := w.drew) (fun _ _ h => h) (fun _ => Nat.le_refl _) (fun _ _ _ => rfl) hr)
    (by rw [List.length_append]; exact hge) (by unfold maxLen at hcm; exact hcm)
    (by
      simp only [Array.size_append, List.size_toArray, size_zeroCells, hzs, hlo, hln, ← Nat.add_mul]
      exact Nat.mul_le_mul_right _ (by omega))
    (.inl (Nat.le_refl _))
  rw [List.length_append] at h2
  exact ⟨_, _, g', hrun, h2, (Ext.alike g (Alike.drew w)).trans e2⟩

/-- What the three ways of an append are to show. -/
def ApOk (P : Program) (X : Cfg) (w : World) (g : Gh) (env : List D) (vals : List Value) (sto : Sto) (st t2 ty : TypeId) (vx vy : Value) (d : D) : Prop :=
  ∃ v w' g', (Builtin.append_ #[st, t2] ty #[vx, vy]).run P w = .ok v w' ∧ Sim X g' w' (env ++ [d]) (vals ++ [v]) sto ∧ Ext g w g' w'

theorem ap_none {g env vals sto} (hs : Sim X g w env vals sto) {st t2 ty e : TypeId} {te : TE} {et : Ty} (hst : P.underlying st = some (.slice e)) {d2 : TypeDesc} (ht2 : P.underlying t2 = some d2)
    (hd2 : (∃ e2, d2 = .slice e2) ∨ d2 = .string) (hte : TEok P e te) (hty : te.ty = some et) {l' : List et.den} {vy : Value} {news : List Value}
    (hn : RowOk X g.φ g.G w et l' news)
    (hlen : ∀ w', (Builtin.lenOf vy).run P w' = .ok l'.length w')
    (hf : ∀ w', (∀ b o, o < g.G b → w'.cell? ⟨b, o, none⟩ = w.cell? ⟨b, o, none⟩) → (Builtin.firstCells et.size l'.length vy).run P w' = .ok news.toArray w')
    (hroom : room te.bytes l'.length = true) : ApOk P X w g env vals sto st t2 ty (.slice none 0 0) vy (.sl .own et l') := by
  by_cases e0 : l' = []
  · subst e0
    obtain ⟨i, zv, hi, hisz, hiby, hz, hzl⟩ := hte.info
    obtain ⟨hts, _⟩ := hte.ty et hty
    refine ⟨.slice none 0 0, w, g, ?_, hs.pushN _ _ (.slNil (by decide)) rfl (by intro a len cap h; cases h), .refl _ _⟩
    have hf0 := hf w (fun _ _ _ => rfl)
    rw [← hts] at hisz
    have hl0 := hlen w
    simp only [List.length_nil] at hf0 hl0
    rcases hd2 with ⟨e2, rfl⟩ | rfl <;> simp [Builtin.append_, run_underlying hst, run_underlying ht2, sizeOf, typeInfo, hi, hl0, hisz, hf0]
  · obtain ⟨v, w', g', h1, h2, h3⟩ := append_more (P := P) (ty := ty) hs hst ht2 hd2 hte hty (l := []) (l' := l') (base := none) (cap := 0) (vy := vy) (olds := []) (news := news)
      ⟨by simp, fun i x hx => by simp at hx⟩ hn (fun w' _ => rfl) hlen hf (by have := List.length_pos_iff.2 e0; simpa using this) (by simpa using hroom)
    exact ⟨v, w', g', h1, h2, h3⟩

theorem ap_in {g env vals sto} {st t2 ty e : TypeId} {te : TE} {et : Ty} {l l' : List et.den} {md : Md} {b off cap : Nat} {vy : Value} (hs : Sim X g w (env ++ [.sl md et l]) (vals ++ [.slice (some ⟨b, off, none⟩) l.length cap]) sto) (hmd : md.keeps l.length cap)
    (hst : P.underlying st = some (.slice e)) {d2 : TypeDesc} (ht2 : P.underlying t2 = some d2)
    (hd2 : (∃ e2, d2 = .slice e2) ∨ d2 = .string) (hte : TEok P e te) (hty : te.ty = some et) {news : List Value}
    (hn : RowOk X g.φ g.G w et l' news)
    (hlen : ∀ w', (Builtin.lenOf vy).run P w' = .ok l'.length w')
    (hf : ∀ w', (∀ b o, o < g.G b → w'.cell? ⟨b, o, none⟩ = w.cell? ⟨b, o, none⟩) → (Builtin.firstCells et.size l'.length vy).run P w' = .ok news.toArray w')
    (hg : ¬ cap < l.length + l'.length) : ApOk P X w g env vals sto st t2 ty (.slice (some ⟨b, off, none⟩) l.length cap) vy (.sl .own et (l ++ l')) := by
  have hl : env.length = vals.length := by have := hs.len; simpa using this
  obtain ⟨g', h2, e2⟩ := hs.appendIn hmd (l2 := l') (ys := news) hn.len (by omega) hn.rep
  refine ⟨_, _, g', ?_, h2, e2⟩
  obtain ⟨kk, gg, sp⟩ := hs.own (.env env.length 0) md _ l ⟨b, off, none⟩ l.length cap (.leaf (by simp) (by rw [hl]; simp)) hmd
  obtain ⟨i, zv, hi, hisz, hiby, hz, hzl⟩ := hte.info
  obtain ⟨hts, _⟩ := hte.ty et hty
  have hisz2 : i.size = et.size := hisz.trans hts.symm
  have hcapm : (l.length + l'.length) * et.size ≤ cap * et.size := Nat.mul_le_mul_right _ (Nat.le_of_not_lt hg)
  have hnl := hn.len
  rw [Nat.add_mul] at hcapm
  have hrr := run_append_room (P := P) (w := w) (ty := ty) (b := b) (off := off) (sLen := l.length) (sCap := cap) (m := l'.length) (x := vy) (news := news) hst ht2 hd2 hi (hlen w)
    (by rw [hisz2]; exact hf w (fun _ _ _ => rfl)) (by rw [hisz2]; exact hnl) hn.one (by omega)
    (fun j hj => by
      rw [hisz2]
      obtain ⟨⟨u, hu⟩, _⟩ := sp (l.length * et.size + j) (by omega) (by omega)
      rw [Nat.add_assoc]; simp only at hu; rw [hu]; rfl)
    (fun j hj => by
      rw [hisz2]
      obtain ⟨_, hz⟩ := sp (l.length * et.size + j) (by omega) (by omega)
      rw [Nat.add_assoc]; exact hz)
  rw [hisz2] at hrr
  exact hrr


theorem ap_own {g env vals sto} {st t2 ty e : TypeId} {te : TE} {et : Ty} {l l' : List et.den} {vx vy : Value} (hs : Sim X g w (env ++ [.sl .own et l]) (vals ++ [vx]) sto)
    (hst : P.underlying st = some (.slice e)) {d2 : TypeDesc} (ht2 : P.underlying t2 = some d2)
    (hd2 : (∃ e2, d2 = .slice e2) ∨ d2 = .string) (hte : TEok P e te) (hty : te.ty = some et) {news : List Value}
    (hn : RowOk X g.φ g.G w et l' news)
    (hlen : ∀ w', (Builtin.lenOf vy).run P w' = .ok l'.length w')
    (hf : ∀ w', (∀ b o, o < g.G b → w'.cell? ⟨b, o, none⟩ = w.cell? ⟨b, o, none⟩) → (Builtin.firstCells et.size l'.length vy).run P w' = .ok news.toArray w')
    (hroom : room te.bytes (l.length + l'.length) = true) : ApOk P X w g env vals sto st t2 ty vx vy (.sl .own et (l ++ l')) := by
  have hl : env.length = vals.length := by have := hs.len; simpa using this
  have hx := hs.rep env.length (.sl .own et l) vx (by simp) (by rw [hl]; simp)
  obtain ⟨a, cap, rfl⟩ := rep_slice_form hx
  obtain ⟨_, olds, ho, hfo⟩ := row_of_sl (P := P) hx
  by_cases hg : cap < l.length + l'.length
  · obtain ⟨v, w', g', h1, h2, h3⟩ := append_more (P := P) (ty := ty) hs.drop hst ht2 hd2 hte hty ho hn hfo hlen hf hg hroom
    exact ⟨v, w', g', h1, h2, h3⟩
  · rcases rep_slice_inv hx with ⟨e0, e1, _, e2, _⟩ | ⟨_, _, _, hm, _⟩ | ⟨b, off, vs, e1, _, hlc, _⟩
    · subst e0; subst e1; subst e2
      have := ap_none (P := P) (ty := ty) hs.drop hst ht2 hd2 hte hty hn hlen hf (by simpa using hroom)
      simpa using this
    · exact absurd rfl hm
    · subst e1
      exact ap_in hs (.inl rfl) hst ht2 hd2 hte hty hn hlen hf hg

theorem ap_same {g env vals sto} {st t2 ty e : TypeId} {te : TE} {et : Ty} {m : Md} {l : List et.den} {vx vy : Value} (hs : Sim X g w (env ++ [.sl m et l]) (vals ++ [vx]) sto)
    (hst : P.underlying st = some (.slice e)) {d2 : TypeDesc} (ht2 : P.underlying t2 = some d2)
    (hd2 : (∃ e2, d2 = .slice e2) ∨ d2 = .string) (hte : TEok P e te) (hty : te.ty = some et) {news : List Value}
    (hn : RowOk X g.φ g.G w et ([] : List et.den) news)
    (hlen : ∀ w', (Builtin.lenOf vy).run P w' = .ok ([] : List et.den).length w')
    (hf : ∀ w', (∀ b o, o < g.G b → w'.cell? ⟨b, o, none⟩ = w.cell? ⟨b, o, none⟩) → (Builtin.firstCells et.size ([] : List et.den).length vy).run P w' = .ok news.toArray w') : ApOk P X w g env vals sto st t2 ty vx vy (.sl m et l) := by
  have hl : env.length = vals.length := by have := hs.len; simpa using this
  have hx := hs.rep env.length (.sl m et l) vx (by simp) (by rw [hl]; simp)
  obtain ⟨a, cap, rfl⟩ := rep_slice_form hx
  obtain ⟨i, zv, hi, hisz, hiby, hz, hzl⟩ := hte.info
  obtain ⟨hts, _⟩ := hte.ty et hty
  refine ⟨_, w, g, ?_, hs, .refl _ _⟩
  have hf0 := hf w (fun _ _ _ => rfl)
  rw [← hts] at hisz
  have hl0 := hlen w
  simp only [List.length_nil] at hf0 hl0
  have hlc : l.length ≤ cap := by
    rcases rep_slice_inv hx with ⟨e0, _, _, e2, _⟩ | ⟨e0, _⟩ | ⟨_, _, _, _, _, hlc, _⟩
    · subst e0; simp
    · subst e0; simp
    · exact hlc
  have hnews : news = [] := List.length_eq_zero_iff.1 (by simpa using hn.len)
  subst hnews
  have hnc : ¬ cap < l.length := Nat.not_lt.2 hlc
  cases a with
  | none => rcases hd2 with ⟨e2, rfl⟩ | rfl <;> simp [Builtin.append_, run_underlying hst, run_underlying ht2, sizeOf, typeInfo, hi, hl0, hisz, hf0, hnc]
  | some p => rcases hd2 with ⟨e2, rfl⟩ | rfl <;> simp [Builtin.append_, run_underlying hst, run_underlying ht2, sizeOf, typeInfo, hi, hl0, hisz, hf0, hlc, storeCells]

theorem ApOk.oc {g env vals sto} {st t2 ty : TypeId} {et : Ty} {l : List et.den} {vx vy : Value} (h : ApOk P X w g env vals sto st t2 ty vx vy (.sl .own et l)) : ApOk P X w g env vals sto st t2 ty vx vy (.sl .oc et l) := by
  obtain ⟨v, w', g', h1, h2, h3⟩ := h
  exact ⟨v, w', g', h1, h2.ownOc, h3⟩

theorem ap_oc {g env vals sto} {st t2 ty e : TypeId} {te : TE} {et : Ty} {l l' : List et.den} {vx vy : Value} (hs : Sim X g w (env ++ [.sl .oc et l]) (vals ++ [vx]) sto)
    (hst : P.underlying st = some (.slice e)) {d2 : TypeDesc} (ht2 : P.underlying t2 = some d2)
    (hd2 : (∃ e2, d2 = .slice e2) ∨ d2 = .string) (hte : TEok P e te) (hty : te.ty = some et) {news : List Value}
    (hn : RowOk X g.φ g.G w et l' news)
    (hlen : ∀ w', (Builtin.lenOf vy).run P w' = .ok l'.length w')
    (hf : ∀ w', (∀ b o, o < g.G b → w'.cell? ⟨b, o, none⟩ = w.cell? ⟨b, o, none⟩) → (Builtin.firstCells et.size l'.length vy).run P w' = .ok news.toArray w')
    (hroom : room te.bytes (l.length + l'.length) = true) : ApOk P X w g env vals sto st t2 ty vx vy (.sl .oc et (l ++ l')) := by
  have hl : env.length = vals.length := by have := hs.len; simpa using this
  have hx := hs.rep env.length (.sl .oc et l) vx (by simp) (by rw [hl]; simp)
  obtain ⟨a, cap, rfl⟩ := rep_slice_form hx
  obtain ⟨_, olds, ho, hfo⟩ := row_of_sl (P := P) hx
  by_cases hg : cap < l.length + l'.length
  · obtain ⟨v, w', g', h1, h2, h3⟩ := append_more (P := P) (ty := ty) hs.drop hst ht2 hd2 hte hty ho hn hfo hlen hf hg hroom
    exact ApOk.oc ⟨v, w', g', h1, h2, h3⟩
  · by_cases e0 : l' = []
    · subst e0
      rw [List.append_nil]
      exact ap_same hs hst ht2 hd2 hte hty hn hlen hf
    · have hpos : 0 < l'.length := List.length_pos_iff.2 e0
      rcases rep_slice_inv hx with ⟨e0, e1, _, e2, _⟩ | ⟨e0, _, _, _, e2, _⟩ | ⟨b, off, vs, e1, _, hlc, _⟩
      · subst e2; omega
      · have := e2 (.inr rfl); omega
      · subst e1
        exact ApOk.oc (ap_in hs (.inr ⟨rfl, by omega⟩) hst ht2 hd2 hte hty hn hlen hf hg)

theorem appendK_sound {cx : Cx} (hcx : CxOk P X cx) {st t2 ty : TypeId} {x y : D} {k : D → Option R} {r : R} (h : appendK cx st x y k = some r) {g env vals sto} {vx vy : Value}
    (hs : Sim X g w (env ++ [x]) (vals ++ [vx]) sto) (hy : RepV X g.φ g.G w y vy) {d2 : TypeDesc} (ht2 : P.underlying t2 = some d2) (hd2 : (∃ e2, d2 = .slice e2) ∨ d2 = .string) :
    ∃ d, k d = some r ∧ ApOk P X w g env vals sto st t2 ty vx vy d := by
  unfold appendK at h
  split at h
  · rename_i e sz1 by1 ag1 ty1 z1 hst0
    obtain ⟨ds, hds, hk⟩ := desc_int hcx hst0
    obtain rfl : ds = .slice e := by
      cases ds <;> first | (have := Nat.eq_of_beq_eq_true hk; subst this; rfl) | cases hk
    split at h
    · rename_i d0 sz by_ ag et z he0
      have hte := hcx.tab _ _ he0
      split at h
      · rename_i l' htail
        obtain ⟨news, hn, hlen, hf⟩ := tail_sound (P := P) htail hy
        split at h
        · split at h
          · rename_i hroom
            have hl : env.length = vals.length := by have := hs.len; simpa using this
            have hx := hs.rep env.length .nils vx (by simp) (by rw [hl]; simp)
            obtain rfl : vx = .slice none 0 0 := by cases hx; rfl
            exact ⟨_, h, ap_none hs.drop hds ht2 hd2 hte rfl hn hlen hf hroom⟩
          · cases h
        · split at h
          · rename_i t l0 _ l hcast
            obtain ⟨e, hcast⟩ := castL_some hcast
            subst e
            subst hcast
            split at h
            · rename_i hroom
              exact ⟨_, h, ap_own hs hds ht2 hd2 hte rfl hn hlen hf hroom⟩
            · cases h
          · cases h
        · split at h
          · rename_i t l0 _ l hcast
            obtain ⟨e, hcast⟩ := castL_some hcast
            subst e
            subst hcast
            split at h
            · rename_i hroom
              exact ⟨_, h, ap_oc hs hds ht2 hd2 hte rfl hn hlen hf hroom⟩
            · cases h
          · cases h
        · split at h
          · rename_i t l0 _ l hcast
            obtain ⟨e, hcast⟩ := castL_some hcast
            subst e
            subst hcast
            split at h
            · rename_i hroom
              exact ⟨_, h, ap_oc hs.capOc hds ht2 hd2 hte rfl hn hlen hf hroom⟩
            · cases h
          · cases h
        · cases h
      · cases h
    · cases h
  · cases h

end
end Go.Ev

/-! Slices, fields, indexes. -/
namespace Go.Ev
section
variable {P : Program} {X : Cfg} {R : Type} {φ : List Nat} {G : Nat → Nat} {w : World}

theorem boundK_sound {x : D} {m : Nat} {k : Nat → Option R} {r : R} (h : boundK x m k = some r) {vx : Value} (hx : RepV X φ G w x vx) {hi : Nat} (hm : m ≤ hi) (code : BoundsCode) :
    ∃ n, k n = some r ∧ n ≤ m ∧ (Instr.sliceBound vx hi code).run P w = .ok n w := by
  unfold boundK at h
  split at h
  · rename_i kd n
    split at h
    · rename_i hb
      have hb0 := of_decide_eq_true hb
      obtain ⟨rfl, _⟩ := rep_int hx
      refine ⟨n.toNat, h, by omega, ?_⟩
      have h1 : 0 ≤ n ∧ n ≤ (hi : Int) := ⟨hb0.1, by omega⟩
      simp [Instr.sliceBound, asIntOf, h1]
    · cases h
  · cases h

theorem ofList_extract (s : List UInt8) (l h : Nat) : (⟨s.toArray⟩ : ByteArray).extract l h = ⟨((s.take h).drop l).toArray⟩ := by
  apply ByteArray.ext
  rw [ByteArray.data_extract]
  apply Array.ext'
  simp [List.drop_take]

/-- The optional bounds, off the evaluator's. -/
def vOpt (a : Act) (x : Option Operand) : Option Value := x.map a.eval

theorem optK_sound {g : Gh} {env sto} {a : Act} (hs : Sim X g w env a.tmps.toList sto) {x : Option Operand} {d m : Nat} {k : Nat → Option R} {r : R}
    (h : optK (x.map (rd env)) d m k = some r) : (x = none ∧ k d = some r) ∨ ∃ y, x = some y ∧ boundK (rd env y) m k = some r := by
  cases x with
  | none => exact .inl ⟨rfl, h⟩
  | some y => exact .inr ⟨y, rfl, h⟩

theorem bounds_sound {g : Gh} {env sto} {a : Act} (hs : Sim X g w env a.tmps.toList sto) {lo hi : Option Operand} {len cap : Nat} (hlc : len ≤ cap) {isS : Bool} {k : Nat → Nat → Option R} {r : R}
    (h : (optK (hi.map (rd env)) len len fun h => optK (lo.map (rd env)) 0 h fun l => k h l) = some r) :
    ∃ hh l, k hh l = some r ∧ l ≤ hh ∧ hh ≤ len ∧ (Instr.sliceBounds isS len cap (lo.map a.eval) (hi.map a.eval) none).run P w = .ok (l, hh, cap) w := by
  have step : ∀ hh, hh ≤ len → (optK (lo.map (rd env)) 0 hh fun l => k hh l) = some r →
      ∃ l, k hh l = some r ∧ l ≤ hh ∧ ((match lo.map a.eval with | some v => Instr.sliceBound v hh .sliceB | none => pure 0 : Sem Nat)).run P w = .ok l w := by
    intro hh _ h2
    rcases optK_sound hs h2 with ⟨rfl, h2'⟩ | ⟨y, rfl, h2'⟩
    · exact ⟨0, h2', by omega, rfl⟩
    · obtain ⟨n, h3, h4, h5⟩ := boundK_sound (P := P) h2' (hs.read y) (Nat.le_refl hh) .sliceB
      exact ⟨n, h3, h4, h5⟩
  rcases optK_sound hs h with ⟨rfl, h'⟩ | ⟨y, rfl, h'⟩
  · obtain ⟨l, h1, h2, h3⟩ := step len (Nat.le_refl _) h'
    refine ⟨len, l, h1, h2, Nat.le_refl _, ?_⟩
    cases lo <;> simp [Instr.sliceBounds] at h3 ⊢
    · exact h3
    · simp [h3]
  · obtain ⟨hh, h1, h2, h3⟩ := boundK_sound (P := P) h' (hs.read y) hlc (if isS then .sliceAcap else .sliceAlen)
    obtain ⟨l, h4, h5, h6⟩ := step hh h2 h1
    refine ⟨hh, l, h4, h5, h2, ?_⟩
    cases isS <;> cases lo <;> simp [Instr.sliceBounds] at h3 h6 ⊢ <;> simp [h3, h6]

theorem rep_sub {m m' : Md} {t : Ty} {l : List t.den} {b off cap lo hh : Nat} (h : RepV X φ G w (.sl m t l) (.slice (some ⟨b, off, none⟩) l.length cap)) (hlo : lo ≤ hh) (hhi : hh ≤ l.length) (hm0 : m' ≠ .own ∧ m' ≠ .oc)
    {cap' : Nat} (hcap' : cap' ≤ cap - lo) (hc1 : hh - lo ≤ cap') (hm : m' = .cap → cap' = hh - lo) :
    RepV X φ G w (.sl m' t ((l.take hh).drop lo)) (.slice (some ⟨b, off + lo * t.size, none⟩) (hh - lo) cap') := by
  rcases rep_slice_inv h with ⟨_, h0, _⟩ | ⟨rfl, _, _, _, _, hmax⟩ | ⟨b', off', vs, h0, _, hlen, hcap, hmax, hp, hc, hr⟩
  · cases h0
  · obtain rfl : hh = 0 := by simpa using hhi
    obtain rfl : lo = 0 := by omega
    simpa using RepV.slE (X := X) (φ := φ) (G := G) (w := w) (t := t) (p := ⟨b, off, none⟩) (cap := cap') hm0.1 (fun e => e.elim (fun e => by simpa using hm e) (fun e => absurd e hm0.2)) (by omega)
  cases h0
  have hl : ((l.take hh).drop lo).length = hh - lo := by simp; omega
  have hmul : (hh - lo) * t.size + lo * t.size ≤ l.length * t.size := by
    rw [← Nat.add_mul]; exact Nat.mul_le_mul_right _ (by omega)
  have := RepV.sl (X := X) (φ := φ) (G := G) (w := w) (m := m') (t := t) (l := (l.take hh).drop lo) (b := b) (off := off + lo * t.size) (cap := cap') (fun j => vs (lo * t.size + j))
    (by omega) (fun e => by rw [hl]; exact hm e) (by omega) (by rw [hl]; omega) (fun j hj => by rw [hl] at hj; rw [Nat.add_assoc]; exact hc _ (by omega))
    (fun i x hx j c hj => by
      have hil := (List.getElem?_eq_some_iff.1 hx).1
      rw [hl] at hil
      rw [List.getElem?_drop, List.getElem?_take] at hx
      rw [if_pos (by omega)] at hx
      have := hr (lo + i) x hx j c hj
      rw [Nat.add_mul, Nat.add_assoc] at this
      exact this)
  rw [hl] at this
  exact this

theorem desc_slice {cx : Cx} (hcx : CxOk P X cx) {t : TypeId} {te : TE} {e : TypeId} (h : look cx.tab t = some te) (hd : te.d = .slice e) : P.underlying t = some (.slice e) := by
  obtain ⟨d, h1, h2⟩ := desc_int hcx h
  rw [hd] at h2
  cases d <;> first | (have := Nat.eq_of_beq_eq_true h2; subst this; exact h1) | cases h2

theorem desc_str {cx : Cx} (hcx : CxOk P X cx) {t : TypeId} {te : TE} (h : look cx.tab t = some te) (hd : te.d = .str) : P.underlying t = some .string := by
  obtain ⟨d, h1, h2⟩ := desc_int hcx h
  rw [hd] at h2
  cases d <;> first | exact h1 | cases h2

theorem desc_kind {cx : Cx} (hcx : CxOk P X cx) {t : TypeId} {te : TE} {k : IntKind} (h : look cx.tab t = some te) (hd : te.d = .int k) : P.underlying t = some (.int k) := by
  obtain ⟨d, h1, h2⟩ := desc_int hcx h
  rw [hd] at h2
  cases d <;> first | (have := of_decide_eq_true h2; subst this; exact h1) | cases h2

theorem desc_array {cx : Cx} (hcx : CxOk P X cx) {t : TypeId} {te : TE} {n : Nat} {e : TypeId} (h : look cx.tab t = some te) (hd : te.d = .array n e) : P.underlying t = some (.array n e) := by
  obtain ⟨d, h1, h2⟩ := desc_int hcx h
  rw [hd] at h2
  cases d <;> first | cases h2; done | skip
  simp only [descB, Bool.and_eq_true] at h2
  rw [Nat.eq_of_beq_eq_true h2.1, Nat.eq_of_beq_eq_true h2.2]; exact h1

theorem desc_struct {cx : Cx} (hcx : CxOk P X cx) {t : TypeId} {te : TE} {fs : List FI} (h : look cx.tab t = some te) (hd : te.d = .struct fs) : ∃ F, P.underlying t = some (.struct F) ∧ fieldsB P fs F.toList = true := by
  obtain ⟨d, h1, h2⟩ := desc_int hcx h
  rw [hd] at h2
  cases d <;> first | cases h2; done | exact ⟨_, h1, h2⟩

theorem tyOk_str {cx : Cx} (hcx : CxOk P X cx) {t : TypeId} {s : List UInt8} (h : tyOk cx t (.str s) = true) : P.underlying t = some .string := by
  unfold tyOk at h
  cases hl : look cx.tab t with
  | none => rw [hl] at h; cases h
  | some te =>
    rw [hl] at h
    cases te with
    | mk d _ _ _ _ _ => cases d <;> first | exact desc_str hcx hl rfl | cases h

theorem tyOk_nils {cx : Cx} (hcx : CxOk P X cx) {t : TypeId} (h : tyOk cx t .nils = true) : ∃ e te, P.underlying t = some (.slice e) ∧ TEok P e te := by
  unfold tyOk at h
  cases hl : look cx.tab t with
  | none => rw [hl] at h; cases h
  | some te0 =>
    rw [hl] at h
    cases te0 with
    | mk d _ _ _ _ _ =>
      cases d with
      | slice e =>
        simp only at h
        cases h2 : look cx.tab e with
        | none => rw [h2] at h; cases h
        | some te => exact ⟨e, te, desc_slice hcx hl rfl, hcx.tab _ _ h2⟩
      | _ => cases h

theorem tyOk_sl {cx : Cx} (hcx : CxOk P X cx) {t : TypeId} {m : Md} {ty : Ty} {l : List ty.den} (h : tyOk cx t (.sl m ty l) = true) :
    ∃ e te, P.underlying t = some (.slice e) ∧ look cx.tab e = some te ∧ TEok P e te ∧ te.size = ty.size := by
  unfold tyOk at h
  cases hl : look cx.tab t with
  | none => rw [hl] at h; cases h
  | some te0 =>
    rw [hl] at h
    cases te0 with
    | mk d _ _ _ _ _ =>
      cases d with
      | slice e =>
        simp only at h
        cases h2 : look cx.tab e with
        | none => rw [h2] at h; cases h
        | some te => rw [h2] at h; exact ⟨e, te, desc_slice hcx hl rfl, h2, hcx.tab _ _ h2, Nat.eq_of_beq_eq_true h⟩
      | _ => cases h

theorem run_sizeOf' {t : TypeId} {te : TE} (h : TEok P t te) (w : World) : (sizeOf t).run P w = .ok te.size w := by
  obtain ⟨i, z, hi, hs, _⟩ := h.info
  simp [sizeOf, typeInfo, hi, hs]

theorem rep_cut {m m' : Md} {t : Ty} {l : List t.den} {ao : Option Addr} {cap lo hh : Nat} (h : RepV X φ G w (.sl m t l) (.slice ao l.length cap)) (hlo : lo ≤ hh) (hhi : hh ≤ l.length) (hm0 : m' ≠ .own ∧ m' ≠ .oc) (hmn : m' ≠ .nn)
    {c : Nat} (hcc : c ≤ cap) (hc1 : hh - lo ≤ c - lo) (hm : m' = .cap → c - lo = hh - lo) :
    RepV X φ G w (.sl m' t ((l.take hh).drop lo)) (.slice (if c = lo then ao else ao.map (·.add (lo * t.size))) (hh - lo) (c - lo)) := by
  have hl : ((l.take hh).drop lo).length = hh - lo := by simp; omega
  rcases rep_slice_inv h with ⟨e0, e1, _, e2, _⟩ | ⟨e0, ⟨p, e1⟩, _, _, _, hmax⟩ | ⟨b, off, vs, e1, _, hlen, hcap, hmax, hp, hc, hr⟩
  · subst e0; subst e1; subst e2
    obtain rfl : hh = 0 := by simpa using hhi
    obtain rfl : lo = 0 := by omega
    obtain rfl : c = 0 := by omega
    simp
    exact .slNil hmn
  · subst e0; subst e1
    obtain rfl : hh = 0 := by simpa using hhi
    obtain rfl : lo = 0 := by omega
    have fin : ∀ q : Addr, RepV X φ G w (.sl m' t []) (.slice (some q) 0 c) := fun q => .slE hm0.1 (fun e => e.elim (fun e => by simpa using hm e) (fun e => absurd e hm0.2)) (by omega)
    by_cases e : c = 0
    · simpa [e] using (e ▸ fin p : RepV X φ G w (.sl m' t []) (.slice (some p) 0 0))
    · simpa [e] using fin (p.add 0)
  · subst e1
    by_cases e : c = lo
    · subst e
      have e2 : hh = c := by omega
      subst e2
      have e3 : (l.take hh).drop hh = [] := List.eq_nil_of_length_eq_zero (by rw [hl]; omega)
      rw [e3, if_pos rfl, Nat.sub_self]
      have := RepV.sl (X := X) (φ := φ) (G := G) (w := w) (m := m') (t := t) (l := []) (b := b) (off := off) (cap := 0) vs (by simp) (fun _ => rfl) (by omega) (by simp; omega) (fun j hj => by simp at hj) (fun i x hx => by simp at hx)
      exact this
    · rw [if_neg e, Option.map_some, Addr.add_mid]
      exact rep_sub h hlo hhi hm0 (by omega) hc1 hm

theorem op_slice {g : Gh} {env : List D} {sto : Sto} {o : Oper} {a : Act} {k : St → Option R} {r : R} {cx : Cx} (hcx : CxOk P X cx) (t : TypeId) (x : Operand) (lo hi mx : Option Operand) (ho : o.op = .slice t x lo hi mx)
    (hs : Sim X g w env a.tmps.toList sto) (hty : tyOk cx t (rd env x) = true)
    (h : (sliceK (rd env x) (lo.map (rd env)) (hi.map (rd env)) (mx.map (rd env)) fun d => k ⟨put env o.dst d, sto⟩) = some r) : OpOk P X o a w g k r := by
  have hx := hs.read x
  generalize hdx : rd env x = dx at h hx hty
  generalize hvx : a.eval x = vx at hx
  unfold sliceK at h
  split at h
  · rename_i s
    obtain ⟨rfl, hsl⟩ := rep_str hx
    have hu := tyOk_str hcx hty
    cases mx with
    | some m => simp at h
    | none =>
      simp only [Option.map_none] at h
      obtain ⟨hh, l, h1, h2, h3, h4⟩ := bounds_sound (P := P) (isS := false) hs (Nat.le_refl s.length) h
      refine opOk_pure hs (.string ⟨((s.take hh).drop l).toArray⟩) _ ?_ (.str _ ?_) rfl h1
      · have hsz : (⟨s.toArray⟩ : ByteArray).size = s.length := rfl
        simp [execOp, ho, Instr.sliceAt, run_underlying hu, hvx, Instr.slice, hsz, h4, ofList_extract]
      · show ((s.take hh).drop l).length ≤ _
        simp; omega
  · cases hx
    obtain ⟨e, te, hu, hte⟩ := tyOk_nils hcx hty
    cases mx with
    | some m => simp at h
    | none =>
      simp only [Option.map_none] at h
      obtain ⟨hh, l, h1, h2, h3, h4⟩ := bounds_sound (P := P) (isS := true) hs (Nat.le_refl 0) h
      obtain rfl : hh = 0 := by omega
      obtain rfl : l = 0 := by omega
      refine opOk_pure hs (.slice none 0 0) _ ?_ .nils rfl h1
      simp [execOp, ho, Instr.sliceAt, run_underlying hu, hvx, Instr.slice, h4, run_sizeOf' hte]
  · rename_i m ty l
    obtain ⟨e, te, hu, _, hte, hts⟩ := tyOk_sl hcx hty
    obtain ⟨ao, cap, rfl⟩ := rep_slice_form hx
    have hsz := run_sizeOf' hte w
    rw [hts] at hsz
    have hlc : l.length ≤ cap := by
      rcases rep_slice_inv hx with ⟨e0, _, _, e2, _⟩ | ⟨e0, _⟩ | ⟨b, off, vs, e1, _, hlc, _⟩
      · subst e0; simp
      · subst e0; simp
      · exact hlc
    split at h
    · rename_i hm
      obtain rfl : mx = none := by cases mx <;> first | rfl | cases hm
      obtain ⟨hh, lw, h1, h2, h3, h4⟩ := bounds_sound (P := P) (isS := true) hs hlc h
      have hrun : (execOp a.eval o).run P w = .ok (.value (.slice (if cap = lw then ao else ao.map (·.add (lw * ty.size))) (hh - lw) (cap - lw))) w := by
        simp [execOp, ho, Instr.sliceAt, run_underlying hu, hvx, Instr.slice, h4, hsz]
      refine opOk_pure hs _ _ hrun ?_ rfl h1
      exact rep_cut hx h2 h3 (by decide) (by decide) (Nat.le_refl _) (by omega) (by intro h; cases h)
    · rename_i km mv hm
      split at h
      · rename_i kh hv hhi
        split at h
        · rename_i heq
          have heq := of_decide_eq_true heq
          subst heq
          obtain ⟨ym, rfl, hym⟩ : ∃ ym, mx = some ym ∧ rd env ym = .int km hv := by
            cases mx with
            | none => cases hm
            | some ym => exact ⟨ym, rfl, Option.some.inj hm⟩
          obtain ⟨yh, rfl, hyh⟩ : ∃ yh, hi = some yh ∧ rd env yh = .int kh hv := by
            cases hi with
            | none => cases hhi
            | some yh => exact ⟨yh, rfl, Option.some.inj hhi⟩
          obtain ⟨hvm, _⟩ := rep_int (hym ▸ hs.read ym)
          obtain ⟨hvh, _⟩ := rep_int (hyh ▸ hs.read yh)
          unfold boundK at h
          simp only at h
          split at h
          · rename_i hb
            have hb := of_decide_eq_true hb
            have hbm : (Instr.sliceBound (.int km hv) cap .slice3Acap).run P w = .ok hv.toNat w := by
              have : 0 ≤ hv ∧ hv ≤ (cap : Int) := ⟨hb.1, by omega⟩
              simp [Instr.sliceBound, asIntOf, this]
            have hbh : (Instr.sliceBound (.int kh hv) hv.toNat .slice3B).run P w = .ok hv.toNat w := by
              have : 0 ≤ hv ∧ hv ≤ (hv.toNat : Int) := ⟨hb.1, by omega⟩
              unfold Instr.sliceBound
              simp only [asIntOf, Sem.run_bind, Sem.run_pure, Result.andThen_ok, if_pos this]
            obtain ⟨lw, hkl, hll, hrl⟩ : ∃ lw, k ⟨put env o.dst (.sl .cap ty ((l.take hv.toNat).drop lw)), sto⟩ = some r ∧ lw ≤ hv.toNat ∧
                ((match lo.map a.eval with | some v => Instr.sliceBound v hv.toNat .slice3C | none => pure 0 : Sem Nat)).run P w = .ok lw w := by
              rcases optK_sound hs h with ⟨rfl, h'⟩ | ⟨y, rfl, h'⟩
              · exact ⟨0, h', by omega, rfl⟩
              · obtain ⟨n, h3, h4, h5⟩ := boundK_sound (P := P) h' (hs.read y) (Nat.le_refl _) .slice3C
                exact ⟨n, h3, h4, h5⟩
            have hbnd : (Instr.sliceBounds true l.length cap (lo.map a.eval) (some (.int kh hv)) (some (.int km hv))).run P w = .ok (lw, hv.toNat, hv.toNat) w := by
              cases lo <;> simp [Instr.sliceBounds, hbm, hbh] at hrl ⊢ <;> simp [hrl]
            have hrun : (execOp a.eval o).run P w = .ok (.value (.slice (if hv.toNat = lw then ao else ao.map (·.add (lw * ty.size))) (hv.toNat - lw) (hv.toNat - lw))) w := by
              simp [execOp, ho, Instr.sliceAt, run_underlying hu, hvx, Instr.slice, hvm, hvh, hbnd, hsz]
            refine opOk_pure hs _ _ hrun ?_ rfl hkl
            exact rep_cut hx hll (by omega) (by decide) (by decide) (by omega) (Nat.le_refl _) (fun _ => rfl)
          · cases h
        · cases h
      · cases h
    · cases h
  · cases h

end
end Go.Ev

/-! Fields, indexes, conversions, lengths. -/
namespace Go.Ev
section
variable {P : Program} {X : Cfg} {R : Type} {w : World}
variable {g : Gh} {env : List D} {sto : Sto} {o : Oper} {a : Act} {k : St → Option R} {r : R} {cx : Cx}

theorem field_get {fs : List FI} {F : Array Field} (h : fieldsB P fs F.toList = true) {f : Nat} {fi : FI} (hf : fs[f]? = some fi) :
    ∃ fl, F[f]? = some fl ∧ fl.offset = fi.off ∧ (∀ w, (sizeOf fl.type).run P w = .ok fi.size w) ∧ (∃ d, P.underlying fl.type = some d ∧ isAggB d = fi.agg) ∧ (fi.agg = false → fi.size = 1) := by
  obtain ⟨fl, h1, h2⟩ := fieldsB_get h f fi hf
  unfold fieldB at h2
  rw [Bool.and_eq_true] at h2
  obtain ⟨h3, h4⟩ := h2
  split at h4
  · rename_i i d hi hd
    simp only [Bool.and_eq_true] at h4
    obtain ⟨⟨h5, h6⟩, h7⟩ := h4
    refine ⟨fl, by simpa using h1, Nat.eq_of_beq_eq_true h3, fun w => ?_, ⟨d, hd, by simpa using h6⟩, fun ha => ?_⟩
    · simp [sizeOf, typeInfo, hi, Nat.eq_of_beq_eq_true h5]
    · rw [ha] at h7; exact Nat.eq_of_beq_eq_true (by simpa using h7)
  · cases h4

theorem rep_box_drop {φ G} {cs : List D} {b off n : Nat} (h : RepV X φ G w (.box cs) (.pointer (some ⟨b, off, none⟩))) (hn : n ≤ cs.length) : RepV X φ G w (.box (cs.drop n)) (.pointer (some ⟨b, off + n, none⟩)) := by
  obtain ⟨b', off', vs, hv, hp, hc, hcl, hr⟩ := rep_box h
  cases hv
  refine .box (fun j => vs (n + j)) (by simp; omega) (fun j hj => by simp at hj; rw [Nat.add_assoc]; exact hc _ (by omega)) (fun j c hj => ?_) (fun j c hj => ?_)
  · rw [List.getElem?_drop] at hj; exact hcl _ c hj
  · rw [List.getElem?_drop] at hj; exact hr _ c hj

theorem op_fieldAddr (hcx : CxOk P X cx) (t : TypeId) (x : Operand) (f : Nat) (ho : o.op = .fieldAddr t x f) (hs : Sim X g w env a.tmps.toList sto) {te : TE} {fs : List FI} {fi : FI}
    (ht : look cx.tab t = some te) (hd : te.d = .struct fs) (hf : fs[f]? = some fi) (hz : fi.size ≠ 0)
    (h : (∃ i off, rd env x = .ptr i off ∧ k ⟨put env o.dst (.ptr i (off + fi.off)), sto⟩ = some r) ∨
      (∃ cs, rd env x = .box cs ∧ fi.off ≤ cs.length ∧ k ⟨put env o.dst (.box (cs.drop fi.off)), sto⟩ = some r)) : OpOk P X o a w g k r := by
  obtain ⟨F, hu, hF⟩ := desc_struct hcx ht hd
  obtain ⟨fl, h1, h2, h3, _⟩ := field_get hF hf
  have hx := hs.read x
  rcases h with ⟨i, off, he, hk⟩ | ⟨cs, he, hle, hk⟩
  · rw [he] at hx
    obtain ⟨b, hb, hv⟩ := rep_ptr hx
    refine opOk_pure hs (.pointer (some ⟨b, off + fi.off, none⟩)) _ ?_ (.ptr hb) rfl hk
    simp [execOp, ho, hv, Instr.fieldAt, run_underlying hu, h1, Instr.sureAddr, fieldPlace, h3, hz, h2, Addr.add_mid]
  · rw [he] at hx
    obtain ⟨b, off, vs, hv, _⟩ := rep_box hx
    rw [hv] at hx
    refine opOk_pure hs (.pointer (some ⟨b, off + fi.off, none⟩)) _ ?_ (rep_box_drop hx hle) rfl hk
    simp [execOp, ho, hv, Instr.fieldAt, run_underlying hu, h1, Instr.sureAddr, fieldPlace, h3, hz, h2, Addr.add_mid]

theorem part_sound {φ G} {t : TypeId} {sz : Nat} {ag : Bool} (hsz : ∀ w, (sizeOf t).run P w = .ok sz w) (hag : ∃ d, P.underlying t = some d ∧ isAggB d = ag) (h1 : ag = false → sz = 1)
    {cs : List D} {vs : Array Value} (h : RepV X φ G w (.agg cs) (.agg vs)) {off : Nat} (hle : off + sz ≤ cs.length) :
    ∃ v, (part t vs off).run P w = .ok v w ∧ RepV X φ G w (ofCells ag (((cs.drop off).take sz).map D.dup1)) v := by
  obtain ⟨d, hd, hda⟩ := hag
  cases h with
  | agg hl hr =>
    have hrun := run_isAgg (P := P) hd w
    rw [hda] at hrun
    cases ag with
    | true =>
      refine ⟨.agg (vs.extract off (off + sz)), by simp [part, hrun, hsz], .agg (by simp; omega) (fun j c hj => ?_)⟩
      simp only [List.getElem?_map, Option.map_eq_some_iff] at hj
      obtain ⟨c0, h0, rfl⟩ := hj
      have hjs : j < sz := by have := (List.getElem?_eq_some_iff.1 h0).1; simp at this; omega
      rw [List.getElem?_take, if_pos hjs, List.getElem?_drop] at h0
      have := hr _ _ h0
      have e : (vs.extract off (off + sz)).getD j undef = vs.getD (off + j) undef := by
        simp only [Array.getD_eq_getD_getElem?]
        congr 1
        rw [Array.getElem?_extract]
        simp; omega
      rw [e]; exact this.dup1
    | false =>
      have := h1 rfl
      subst this
      have hlt : off < vs.size := by omega
      refine ⟨vs[off], by simp [part, hrun, hlt], ?_⟩
      have hc : cs[off]? = some (cs[off]'(by omega)) := List.getElem?_eq_getElem (by omega)
      have hd1 : (cs.drop off).take 1 = [cs[off]'(by omega)] := by
        apply List.ext_getElem?
        intro j
        rw [List.getElem?_take, List.getElem?_drop]
        cases j with
        | zero => simp [hc]
        | succ j => simp
      rw [hd1]
      have := hr off _ hc
      simp only [Array.getD_eq_getD_getElem?, hlt, Array.getElem?_eq_getElem, Option.getD_some] at this
      exact this.dup1.dup

theorem op_field (hcx : CxOk P X cx) (t : TypeId) (x : Operand) (f : Nat) (ho : o.op = .field t x f) (hs : Sim X g w env a.tmps.toList sto) {te : TE} {fs : List FI} {fi : FI} {cs : List D}
    (ht : look cx.tab t = some te) (hd : te.d = .struct fs) (hf : fs[f]? = some fi) (he : rd env x = .agg cs) (hle : fi.off + fi.size ≤ cs.length)
    (hk : k ⟨put env o.dst (ofCells fi.agg (((cs.drop fi.off).take fi.size).map D.dup1)), sto⟩ = some r) : OpOk P X o a w g k r := by
  obtain ⟨F, hu, hF⟩ := desc_struct hcx ht hd
  obtain ⟨fl, h1, h2, h3, h4, h5⟩ := field_get hF hf
  have hx := hs.read x
  rw [he] at hx
  obtain ⟨vs, hv⟩ := rep_agg hx _ rfl
  rw [hv] at hx
  obtain ⟨v, hrun, hr⟩ := part_sound h3 h4 h5 hx hle
  exact opOk_pure hs v _ (by simp [execOp, ho, hv, Instr.field, run_underlying hu, h1, asAgg, h2, hrun]) hr (ofCells_free _ _) hk

theorem nth_spec {α : Type} {l : List α} {n : Int} {x : α} (h : nth l n = some x) : 0 ≤ n ∧ n < (l.length : Int) ∧ l[n.toNat]? = some x := by
  unfold nth at h
  split at h
  · rename_i hn
    have := (List.getElem?_eq_some_iff.1 h).1
    exact ⟨hn, by omega, h⟩
  · cases h

theorem op_indexSl (hcx : CxOk P X cx) (t : TypeId) (x ix : Operand) (ho : o.op = .indexAddr t x ix) (hs : Sim X g w env a.tmps.toList sto) {m : Md} {ty : Ty} {l : List ty.den} {kd : IntKind} {n : Int} {e : ty.den}
    (hx : rd env x = .sl m ty l) (hty : tyOk cx t (.sl m ty l) = true) (hi : rd env ix = .int kd n) (hn : nth l n = some e)
    (hk : k ⟨put env o.dst (.box (cells ty e)), sto⟩ = some r) : OpOk P X o a w g k r := by
  obtain ⟨el, te, hu, _, hte, hts⟩ := tyOk_sl hcx hty
  obtain ⟨h0, h1, h2⟩ := nth_spec hn
  have hrx := hs.read x
  rw [hx] at hrx
  generalize hvx : a.eval x = vx at hrx
  obtain ⟨ao, cap, rfl⟩ := rep_slice_form hrx
  obtain ⟨hvi, _⟩ := rep_int (hi ▸ hs.read ix)
  rcases rep_slice_inv hrx with ⟨e0, _⟩ | ⟨e0, _⟩ | ⟨b, off, vs, e1, _, hlen, _, hmax, hp, hc, hr⟩
  · subst e0; simp at h2
  · subst e0; simp at h2
  · subst e1
    have hil : n.toNat < l.length := by omega
    refine opOk_pure hs (.pointer (some ⟨b, off + n.toNat * ty.size, none⟩)) _ ?_ ?_ rfl hk
    · simp [execOp, ho, hvx, hvi, Instr.indexAt, asIntOf, run_underlying hu, h0, h1, run_sizeOf' hte, hts, Addr.add_mid]
    · have hcl := cells_length ty e
      have hmul : n.toNat * ty.size + ty.size ≤ l.length * ty.size := by
        rw [← Nat.succ_mul]; exact Nat.mul_le_mul_right _ hil
      refine .box (fun j => vs (n.toNat * ty.size + j)) (by rw [hcl]; omega) (fun j hj => by rw [hcl] at hj; rw [Nat.add_assoc]; exact hc _ (by omega)) (fun j c hj => cells_closed _ _ _ _ hj)
        (fun j c hj => hr _ _ h2 j c hj)

theorem op_indexArr (hcx : CxOk P X cx) (t : TypeId) (x ix : Operand) (ho : o.op = .indexAddr t x ix) (hs : Sim X g w env a.tmps.toList sto) {te0 te : TE} {len : Nat} {e : TypeId} {i off : Nat} {kd : IntKind} {n : Int}
    (ht : look cx.tab t = some te0) (hd : te0.d = .array len e) (hte : look cx.tab e = some te) (hx : rd env x = .ptr i off) (hi : rd env ix = .int kd n) (hn : 0 ≤ n ∧ n < (len : Int))
    (hk : k ⟨put env o.dst (.ptr i (off + n.toNat * te.size)), sto⟩ = some r) : OpOk P X o a w g k r := by
  have hu := desc_array hcx ht hd
  obtain ⟨b, hb, hv⟩ := rep_ptr (hx ▸ hs.read x)
  obtain ⟨hvi, _⟩ := rep_int (hi ▸ hs.read ix)
  refine opOk_pure hs (.pointer (some ⟨b, off + n.toNat * te.size, none⟩)) _ ?_ (.ptr hb) rfl hk
  simp [execOp, ho, hv, hvi, Instr.indexAt, asIntOf, run_underlying hu, Instr.sureAddr, hn.1, hn.2, run_sizeOf' (hcx.tab _ _ hte), Addr.add_mid]

theorem op_indexStr (hcx : CxOk P X cx) (t : TypeId) (x ix : Operand) (ho : o.op = .index t x ix) (hs : Sim X g w env a.tmps.toList sto) {te : TE} {s : List UInt8} {kd : IntKind} {n : Int} {b : UInt8}
    (ht : look cx.tab t = some te) (hd : te.d = .str) (hx : rd env x = .str s) (hi : rd env ix = .int kd n) (hn : nth s n = some b)
    (hk : k ⟨put env o.dst (.int .u8 (b.toNat : Int)), sto⟩ = some r) : OpOk P X o a w g k r := by
  have hu := desc_str hcx ht hd
  obtain ⟨hv, _⟩ := rep_str (hx ▸ hs.read x)
  obtain ⟨hvi, _⟩ := rep_int (hi ▸ hs.read ix)
  obtain ⟨h0, h1, h2⟩ := nth_spec hn
  have hbt := b.toNat_lt
  refine opOk_pure hs (.int .u8 (b.toNat : Int)) _ ?_ (.int (by simp only [InR, lo, Ev.hi]; omega)) rfl hk
  have e : (⟨s.toArray⟩ : ByteArray)[n.toNat]? = some b := by
    have hlt : n.toNat < s.length := (List.getElem?_eq_some_iff.1 h2).1
    have : s[n.toNat] = b := (List.getElem?_eq_some_iff.1 h2).2
    rw [getElem?_pos _ _ (by exact hlt)]
    congr 1
  simp [execOp, ho, hv, hvi, Instr.index, asIntOf, run_underlying hu, h0, e]

theorem op_indexAgg (hcx : CxOk P X cx) (t : TypeId) (x ix : Operand) (ho : o.op = .index t x ix) (hs : Sim X g w env a.tmps.toList sto) {te0 te : TE} {len : Nat} {e : TypeId} {cs : List D} {kd : IntKind} {n : Int}
    (ht : look cx.tab t = some te0) (hd : te0.d = .array len e) (hte : look cx.tab e = some te) (hx : rd env x = .agg cs) (hi : rd env ix = .int kd n) (hn : 0 ≤ n ∧ n < (len : Int))
    (hle : n.toNat * te.size + te.size ≤ cs.length)
    (hk : k ⟨put env o.dst (ofCells te.agg (((cs.drop (n.toNat * te.size)).take te.size).map D.dup1)), sto⟩ = some r) : OpOk P X o a w g k r := by
  have hu := desc_array hcx ht hd
  have hr := hs.read x
  rw [hx] at hr
  obtain ⟨vs, hv⟩ := rep_agg hr _ rfl
  rw [hv] at hr
  obtain ⟨hvi, _⟩ := rep_int (hi ▸ hs.read ix)
  have hteo := hcx.tab _ _ hte
  obtain ⟨d, hdd, hda, _⟩ := hteo.desc
  obtain ⟨v, hrun, hrv⟩ := part_sound (run_sizeOf' hteo) ⟨d, hdd, hda⟩ hteo.one hr hle
  exact opOk_pure hs v _ (by simp [execOp, ho, hv, hvi, Instr.index, asIntOf, run_underlying hu, hn.1, hn.2, run_sizeOf' hteo, hrun]) hrv (ofCells_free _ _) hk

theorem op_len (hcx : CxOk P X cx) {x : Operand} {t : TypeId} (ho : o.op = .call { callee := .builtin .len, args := #[x], argTypes := #[t] }) (hs : Sim X g w env a.tmps.toList sto) {te : TE} (ht : look cx.tab t = some te) {n : Int}
    (h : (te.d = .str ∧ ∃ s, rd env x = .str s ∧ n = s.length) ∨ (∃ e, te.d = .slice e ∧ lenD (rd env x) = some n ∧ ∀ s, rd env x ≠ .str s) ∨ (∃ l e, te.d = .array l e ∧ n = (l : Int) ∧ l ≤ 9223372036854775807))
    (hk : k ⟨put env o.dst (.int .i64 n), sto⟩ = some r) : OpOk P X o a w g k r := by
  have hr := hs.read x
  rcases h with ⟨hd, s, hx, rfl⟩ | ⟨e, hd, hl, hns⟩ | ⟨l, e, hd, rfl, hle⟩
  · have hu := desc_str hcx ht hd
    rw [hx] at hr
    obtain ⟨hv, hsl⟩ := rep_str hr
    refine opOk_pure hs (.int .i64 s.length) _ ?_ (.int (by simp only [InR, lo, hi]; omega)) rfl hk
    have hsz : (⟨s.toArray⟩ : ByteArray).size = s.length := rfl
    simp [execOp, ho, resolve, invoke, builtin, Builtin.len_, run_underlying hu, hv, goInt, hsz]
  · have hu := desc_slice hcx ht hd
    generalize hdx : rd env x = dx at hr hl hns
    generalize hvx : a.eval x = vx at hr
    unfold lenD at hl
    split at hl
    · exact absurd rfl (hns _)
    · cases hl; cases hr
      refine opOk_pure hs (.int .i64 0) _ ?_ (.int (by simp [InR, lo, hi])) rfl hk
      simp [execOp, ho, resolve, invoke, builtin, Builtin.len_, run_underlying hu, hvx, goInt]
    · cases hl
      obtain ⟨ao, cap, rfl⟩ := rep_slice_form hr
      have hlen : ∀ {m ty} {l : List (Ty.den ty)}, RepV X g.φ g.G w (.sl m ty l) (.slice ao l.length cap) → l.length ≤ 9223372036854775807 := by
        intro m ty l h
        rcases rep_slice_inv h with ⟨e0, _⟩ | ⟨e0, _⟩ | ⟨b, off, vs, _, _, hlen, _, hmax, _⟩
        · subst e0; simp
        · subst e0; simp
        · omega
      have := hlen hr
      refine opOk_pure hs _ _ ?_ (.int (by simp only [InR, lo, hi]; omega)) rfl hk
      simp [execOp, ho, resolve, invoke, builtin, Builtin.len_, run_underlying hu, hvx, goInt]
    · cases hl
  · have hu := desc_array hcx ht hd
    refine opOk_pure hs (.int .i64 l) _ ?_ (.int (by simp only [InR, lo, hi]; omega)) rfl hk
    simp [execOp, ho, resolve, invoke, builtin, Builtin.len_, run_underlying hu, goInt]

theorem op_extract {x : Operand} {i : Nat} (ho : o.op = .extract x i) (hs : Sim X g w env a.tmps.toList sto) {cs : List D} {c : D} (hx : rd env x = .tup cs) (hc : cs[i]? = some c)
    (hlf : c.free = true ∨ c.leaf = true) (hk : k ⟨put (left env x) o.dst c, sto⟩ = some r) : OpOk P X o a w g k r := by
  obtain ⟨g1, h1, e1, _⟩ := hs.take x
  have hl : (left env x).length = a.tmps.toList.length := by have := h1.len; simpa using this
  rw [hx] at h1
  have hr := h1.rep (left env x).length (.tup cs) (a.eval x) (by simp) (by rw [hl]; simp)
  generalize hv : a.eval x = v at *
  cases hr with
  | tup hlen hcr =>
    rename_i vs
    have hci := hcr i c hc
    have hilt : i < vs.size := by rw [hlen]; exact (List.getElem?_eq_some_iff.1 hc).1
    have hrun : (execOp a.eval o).run P w = .ok (.value (vs.getD i undef)) w := by
      simp [execOp, ho, hv, Instr.extract, hilt]
    -- the part goes over into the hand, the tuple is let go
    have hn : (left env x).length = a.tmps.toList.length := hl
    obtain ⟨g2, h2, e2⟩ : ∃ g2, Sim X g2 w (left env x ++ [c]) (a.tmps.toList ++ [vs.getD i undef]) sto ∧ Ext g1 w g2 w := by
      refine ⟨_, h1.re (fun ℓ => match ℓ with
          | .env t j => if t = (left env x).length ∧ j = i + 1 then .env (left env x).length 0 else .env t j
          | ℓ => ℓ) (fun _ => rfl) (by simp [hl]) ?_ ?_, .names _⟩
      · intro t d' u hd hu
        rcases getElem?_snoc hd with ⟨ht, hd⟩ | ⟨rfl, rfl⟩
        · rw [List.getElem?_append_left (hl ▸ ht)] at hu
          exact h1.rep t d' u (by rw [List.getElem?_append_left ht]; exact hd) (by rw [List.getElem?_append_left (hl ▸ ht)]; exact hu)
        · rw [hl] at hu; simp at hu; subst hu; rw [← Array.getD_eq_getD_getElem?]; exact hci
      · intro ℓ md ty l aa len cap hoc hmd
        cases ℓ with
        | env t j =>
          by_cases ht : t < (left env x).length
          · refine ⟨.env t j, by simp [Nat.ne_of_lt ht], hoc.shift ?_ ?_⟩
            · rw [List.getElem?_append_left ht, List.getElem?_append_left ht]
            · rw [List.getElem?_append_left (hl ▸ ht), List.getElem?_append_left (hl ▸ ht)]
          · have ht : t = (left env x).length := by have := hoc.lt; simp at this; omega
            subst ht
            generalize hℓ : Loc.env (left env x).length j = ℓ at hoc
            generalize hxx : D.sl md ty l = xx at hoc
            generalize hyy : Value.slice (some aa) len cap = yy at hoc
            cases hoc with
            | leaf hd hv' =>
              cases hℓ
              simp at hd; rw [hl] at hv'; simp at hv'
              subst hd; subst hxx; subst hv'
              refine ⟨.env (left env x).length (i + 1), by simp, ?_⟩
              exact .tup (cs := cs) (vs := vs) (by simp) (by rw [hl]; simp) hc (Array.getD_eq_getD_getElem? ..)
            | agg hd hv' hj' he =>
              cases hℓ; simp at hd; subst hd
              rcases hlf with hlf | hlf
              · have := free1_get hlf hj'; subst hxx; rw [(keeps_free1 hmd).1] at this; cases this
              · cases hlf
            | tup hd hv' hj' he =>
              cases hℓ; simp at hd; subst hd
              rcases hlf with hlf | hlf
              · have := free1_get hlf hj'; subst hxx; rw [(keeps_free1 hmd).1] at this; cases this
              · cases hlf
            | cell => cases hℓ
        | obj i => exact hoc.not_obj.elim
        | cell i' j => exact ⟨.cell i' j, rfl, hoc.of_slot (fun _ _ h => by cases h)⟩
    obtain ⟨g3, h3, e3, _⟩ := h2.lay o.dst
    exact ⟨_, w, g3, _, _, .inl hrun, hk, h3, e1.trans (e2.trans e3)⟩

theorem op_makeFunc {f : FuncId} {caps : Array Operand} (ho : o.op = .makeFunc (.func f) #[] caps) (hs : Sim X g w env a.tmps.toList sto)
    (hk : k ⟨put env o.dst (.fn f (caps.toList.map fun x => (rd env x).dup)), sto⟩ = some r) : OpOk P X o a w g k r := by
  refine opOk_pure hs (.func (.func f) #[] (caps.map a.eval)) _ (by simp [execOp, ho, Instr.makeFunc]) (.fn (by simp) (fun j c hj => ?_)) rfl hk
  simp only [List.getElem?_map, Option.map_eq_some_iff] at hj
  obtain ⟨y, hy, rfl⟩ := hj
  have hy' : caps[j]? = some y := by simpa using hy
  have := (hs.read y).dup
  have e : (caps.map a.eval).getD j undef = a.eval y := by
    simp only [Array.getD_eq_getD_getElem?, Array.getElem?_map, hy']; rfl
  rw [e]; exact this

end
end Go.Ev

/-! Conversions; structs and slices that are written out. -/
namespace Go.Ev
section
variable {P : Program} {X : Cfg} {R : Type} {w : World}
variable {g : Gh} {env : List D} {sto : Sto} {o : Oper} {a : Act} {k : St → Option R} {r : R} {cx : Cx}

theorem foldl_bytes : ∀ (l : List UInt8) (s : ByteArray), (l.map fun b => (b.toNat : Int)).foldl (fun r n => r.push (UInt8.ofNat n.toNat)) s = ⟨(s.data.toList ++ l).toArray⟩
  | [], s => by simp
  | b :: l, s => by
    rw [List.map_cons, List.foldl_cons, foldl_bytes l]
    have e : UInt8.ofNat ((b.toNat : Int)).toNat = b := by simp
    rw [e]
    apply ByteArray.ext
    simp [ByteArray.data_push]

theorem rep_bytes {φ G} {m : Md} {l : List UInt8} {ao : Option Addr} {cap : Nat} (h : RepV X φ G w (.sl m .byte l) (.slice ao l.length cap)) :
    (Conv.bytesToString (.slice ao l.length cap)).run P w = .ok (.string ⟨l.toArray⟩) w := by
  rcases rep_slice_inv h with ⟨e0, e1, _, e2, _⟩ | ⟨e0, ⟨p, e1⟩, _, _⟩ | ⟨b, off, vs, e1, _, hlen, _, hmax, hp, hc, hr⟩
  · subst e0; subst e1; rfl
  · subst e0; subst e1
    have hload : (loadCells p 0).run P w = .ok (([] : List Int).map (Value.int .u8)).toArray w := by
      have := run_loadCells_list (P := P) w p [] (fun j v hv => by simp at hv)
      simpa using this
    have := run_bytesToString (P := P) w p 0 cap [] hload
    exact this
  · subst e1
    have hcell : ∀ j x, l[j]? = some x → w.cell? ⟨b, off + j, none⟩ = some (.int .u8 (x.toNat : Int)) := fun j x hj => by
      have hjl := (List.getElem?_eq_some_iff.1 hj).1
      have := hr j x hj 0 _ rfl
      simp only [Ty.size, Nat.mul_one, Nat.add_zero] at this
      rw [hc j (by simpa [Ty.size] using hjl), (rep_int this).1]
    have hload : (loadCells ⟨b, off, none⟩ l.length).run P w = .ok ((l.map fun x => (x.toNat : Int)).map (Value.int .u8)).toArray w := by
      have := run_loadCells_list (P := P) w ⟨b, off, none⟩ ((l.map fun x => (x.toNat : Int)).map (Value.int .u8)) (fun j v hv => by
        simp only [List.getElem?_map, Option.map_eq_some_iff] at hv
        obtain ⟨y, ⟨x, hx, rfl⟩, rfl⟩ := hv
        rw [Addr.add_mid]; exact hcell j x hx)
      simpa using this
    have := run_bytesToString (P := P) w ⟨b, off, none⟩ l.length cap (l.map fun x => (x.toNat : Int)) hload
    rw [foldl_bytes] at this
    simpa using this

theorem op_convInt (hcx : CxOk P X cx) {src dst : TypeId} {x : Operand} (ho : o.op = .convert src dst x) (hs : Sim X g w env a.tmps.toList sto) {ts td : TE} {kd : IntKind} {kx : IntKind} {n : Int}
    (h1 : look cx.tab src = some ts) (h2 : look cx.tab dst = some td) (hd : td.d = .int kd) (hx : rd env x = .int kx n) (hk : k ⟨put env o.dst (.int kd (kd.wrap n)), sto⟩ = some r) : OpOk P X o a w g k r := by
  obtain ⟨d1, hd1, _⟩ := desc_int hcx h1
  have hd2 := desc_kind hcx h2 hd
  obtain ⟨hv, _⟩ := rep_int (hx ▸ hs.read x)
  refine opOk_pure hs (.int kd (kd.wrap n)) _ ?_ (.int (InR_wrap _ _)) rfl hk
  simp [execOp, ho, hv, convert, run_underlying hd1, run_underlying hd2, Conv.intToInt]

theorem op_convStr (hcx : CxOk P X cx) {src dst : TypeId} {x : Operand} (ho : o.op = .convert src dst x) (hs : Sim X g w env a.tmps.toList sto) {ts td : TE} {s : List UInt8}
    (h1 : look cx.tab src = some ts) (h2 : look cx.tab dst = some td) (hd : td.d = .str) (hx : rd env x = .str s) (hk : k ⟨put env o.dst (.str s), sto⟩ = some r) : OpOk P X o a w g k r := by
  obtain ⟨d1, hd1, _⟩ := desc_int hcx h1
  have hd2 := desc_str hcx h2 hd
  have hr := hx ▸ hs.read x
  obtain ⟨hv, _⟩ := rep_str hr
  rw [hv] at hr
  refine opOk_pure hs (.string ⟨s.toArray⟩) _ ?_ hr rfl hk
  simp [execOp, ho, hv, convert, run_underlying hd1, run_underlying hd2]

theorem op_convBytes (hcx : CxOk P X cx) {src dst e : TypeId} {x : Operand} (ho : o.op = .convert src dst x) (hs : Sim X g w env a.tmps.toList sto) {ts td te : TE} {l : List UInt8}
    (h1 : look cx.tab src = some ts) (hsd : ts.d = .slice e) (h2 : look cx.tab dst = some td) (hd : td.d = .str) (h3 : look cx.tab e = some te) (hed : te.d = .int .u8)
    (hx : (∃ m, rd env x = .sl m .byte l) ∨ (rd env x = .nils ∧ l = [])) (hk : k ⟨put env o.dst (.str l), sto⟩ = some r) : OpOk P X o a w g k r := by
  have hu1 := desc_slice hcx h1 hsd
  have hu2 := desc_str hcx h2 hd
  have hu3 := desc_kind hcx h3 hed
  have hr := hs.read x
  generalize hv : a.eval x = v at hr
  have fin : ∀ ao len cap, v = .slice ao len cap → (Conv.bytesToString (.slice ao len cap)).run P w = .ok (.string ⟨l.toArray⟩) w → l.length ≤ 9223372036854775807 → OpOk P X o a w g k r := by
    intro ao len cap hv2 hrun hle
    refine opOk_pure hs (.string ⟨l.toArray⟩) _ ?_ (.str ⟨l.toArray⟩ hle) rfl hk
    rw [hv2] at hv
    have := run_convert_bytes_string (P := P) w src dst e ao len cap hu1 hu3 hu2
    simp [execOp, ho, hv, this, hrun]
  rcases hx with ⟨m, hx⟩ | ⟨hx, rfl⟩
  · rw [hx] at hr
    obtain ⟨ao, cap, rfl⟩ := rep_slice_form hr
    refine fin ao _ cap rfl (rep_bytes hr) ?_
    rcases rep_slice_inv hr with ⟨e0, _⟩ | ⟨e0, _⟩ | ⟨b, off, vs, _, _, hlen, _, hmax, _⟩
    · subst e0; simp
    · subst e0; simp
    · omega
  · rw [hx] at hr; cases hr
    exact fin none 0 0 rfl rfl (by simp)

theorem op_convToBytes (hcx : CxOk P X cx) {src dst e : TypeId} {x : Operand} (ho : o.op = .convert src dst x) (hs : Sim X g w env a.tmps.toList sto) {ts td te : TE} {s : List UInt8}
    (h1 : look cx.tab src = some ts) (h2 : look cx.tab dst = some td) (hd : td.d = .slice e) (h3 : look cx.tab e = some te) (hed : te.d = .int .u8)
    (hx : rd env x = .str s) (hk : k ⟨put env o.dst (.sl .own .byte s), sto⟩ = some r) : OpOk P X o a w g k r := by
  obtain ⟨d1, hd1, _⟩ := desc_int hcx h1
  have hu2 := desc_slice hcx h2 hd
  have hu3 := desc_kind hcx h3 hed
  obtain ⟨hv, hle⟩ := rep_str (hx ▸ hs.read x)
  have hrun := Lib.run_convert_string_bytes (P := P) w src dst e ⟨s.toArray⟩ hd1 hu2 hu3
  have hsz : (⟨s.toArray⟩ : ByteArray).size = s.length := rfl
  rw [hsz] at hrun
  have hge := grownCap_ge w s.length 0 e
  have hcm : grownCap w s.length 0 e ≤ maxLen := grownCap_le_maxLen w s.length 0 e (by unfold maxLen; omega)
  -- the world of the conversion is the one of a new block whose mark lies behind its cells
  have hC : (Lib.bytesCells w e ⟨s.toArray⟩).size = grownCap w s.length 0 e := by
    simp [Lib.bytesCells, hsz]; omega
  obtain ⟨g', h4, e4⟩ := hs.newOwn (t := .byte) (l := s) (Lib.bytesCells w e ⟨s.toArray⟩) e ((Lib.bytesCells w e ⟨s.toArray⟩).size, (Lib.bytesCells w e ⟨s.toArray⟩).size + 1) (grownCap w s.length 0 e)
    (fun j => .int .u8 ((s.getD j 0).toNat : Int))
    (fun j hj => by
      have hj2 : j < s.length := by simpa [Ty.size] using hj
      simp [Lib.bytesCells, Array.getElem?_append, hj2, List.getD])
    (fun i x hx j c hc => by
      cases j with
      | zero =>
        simp [cells] at hc; subst hc
        have : s.getD (i * Ty.byte.size + 0) 0 = x := by simp [Ty.size, List.getD, hx]
        rw [this]
        have := x.toNat_lt
        exact .int (by simp only [InR, lo, hi]; omega)
      | succ j => simp [cells] at hc)
    hge (by unfold maxLen at hcm; exact hcm) (by simp [Ty.size, hC]) (.inr (Nat.le_refl _))
  have halike : Alike (w.alloc (.cells (Lib.bytesCells w e ⟨s.toArray⟩) e ((Lib.bytesCells w e ⟨s.toArray⟩).size, (Lib.bytesCells w e ⟨s.toArray⟩).size + 1))) (Lib.bytesWorld w e ⟨s.toArray⟩) := by
    refine ⟨?_, rfl, rfl, rfl⟩
    apply Array.ext'
    apply List.ext_getElem?
    intro j
    rw [Array.getElem?_toList, Array.getElem?_toList]
    rcases Nat.lt_trichotomy j w.heap.size with hj | hj | hj
    · rw [Lib.bytesWorld_at_old w e _ j hj]
      show _ = (w.heap.push _)[j]?
      rw [Array.getElem?_push, if_neg (Nat.ne_of_lt hj)]
    · subst hj
      rw [Lib.bytesWorld_at_new]
      show _ = (w.heap.push _)[w.heap.size]?
      rw [Array.getElem?_push, if_pos rfl]
    · rw [Array.getElem?_eq_none (by rw [Lib.bytesWorld_size]; omega), Array.getElem?_eq_none (by simp; omega)]
  obtain ⟨g2, h5, e5, _⟩ := (h4.alike halike).lay o.dst
  refine ⟨_, _, g2, _, _, .inl ?_, hk, h5, e4.trans ((Ext.alike g' halike).trans e5)⟩
  simp [execOp, ho, hv, hrun]

theorem freeze_cell (w : World) (p : Addr) (n : Nat) (q : Addr) : (w.freeze p n).cell? q = w.cell? q := by
  unfold World.freeze
  split
  · rfl
  · simp only [World.cell?, Array.getElem?_modify]
    by_cases h : p.block = q.block
    · rw [if_pos h]
      cases hh : w.heap[q.block]? with
      | none => rfl
      | some x => cases x <;> rfl
    · rw [if_neg h]

theorem freeze_heap (w : World) (p : Addr) (n k : Nat) (h : k ≠ p.block) : (w.freeze p n).heap[k]? = w.heap[k]? := by
  unfold World.freeze
  split
  · rfl
  · simp only [Array.getElem?_modify]
    rw [if_neg (fun e => h e.symm)]

theorem freeze_size (w : World) (p : Addr) (n : Nat) : (w.freeze p n).heap.size = w.heap.size := by
  unfold World.freeze
  split <;> simp

theorem freeze_str (w : World) (p : Addr) (n : Nat) : (w.freeze p n).os = w.os ∧ (w.freeze p n).tape = w.tape ∧ (w.freeze p n).output = w.output := by
  unfold World.freeze
  split <;> exact ⟨rfl, rfl, rfl⟩

/-- A constant text turned into bytes: only a mark is set behind the cells. -/
theorem op_convMark (hcx : CxOk P X cx) {src e : TypeId} {x : Operand} (ho : o.op = .convert src src x) (hs : Sim X g w env a.tmps.toList sto) {ts te : TE} {l : List UInt8} (hl0 : l ≠ [])
    (h1 : look cx.tab src = some ts) (hsd : ts.d = .slice e) (h3 : look cx.tab e = some te) (hed : te.d = .int .u8)
    (hx : rd env x = .sl .own .byte l) (hk : k ⟨put (left env x) o.dst (.sl .ro .byte l), sto⟩ = some r) : OpOk P X o a w g k r := by
  have hu1 := desc_slice hcx h1 hsd
  have hu3 := desc_kind hcx h3 hed
  obtain ⟨g1, h2, e1, _⟩ := hs.take x
  have hl : (left env x).length = a.tmps.toList.length := by have := h2.len; simpa using this
  rw [hx] at h2
  have hr := h2.rep (left env x).length (.sl .own .byte l) (a.eval x) (by simp) (by rw [hl]; simp)
  generalize hv : a.eval x = v at *
  obtain ⟨ao, cap, rfl⟩ := rep_slice_form hr
  rcases rep_slice_inv hr with ⟨e0, _⟩ | ⟨e0, _⟩ | ⟨b, off, vs, e2, _, hlen, _, hmax, hp, hc, _⟩
  · exact absurd e0 hl0
  · exact absurd e0 hl0
  subst e2
  obtain ⟨kk, _, _⟩ := h2.own (.env (left env x).length 0) .own .byte l ⟨b, off, none⟩ l.length cap (.leaf (by simp) (by rw [hl]; simp)) (.inl rfl)
  simp only at kk
  have hst : Stale g1 (left env x).length b := .inr ⟨_, _, kk, Nat.le_refl _⟩
  have hshape : ∃ e' n, w.shape? b = some (e', n) := by
    have hpos : 0 < l.length * Ty.byte.size := by simp [Ty.size]; exact List.length_pos_iff.2 hl0
    have := hc 0 hpos
    unfold World.cell? at this
    unfold World.shape?
    cases hh : w.heap[b]? with
    | none => rw [hh] at this; cases this
    | some ob => rw [hh] at this; cases ob <;> first | exact ⟨_, _, rfl⟩ | cases this
  obtain ⟨e', n, hsh⟩ := hshape
  have hrun : (execOp a.eval o).run P w = .ok (.value (.slice (some ⟨b, off, none⟩) l.length cap)) (w.freeze ⟨b, n, none⟩ 1) := by
    simp [execOp, ho, hv, convert, run_underlying hu1, run_underlying hu3, markStringish, hsh]
  have hstr := freeze_str w ⟨b, n, none⟩ 1
  have hfz : ∀ b' o', b' ≠ b → (w.freeze ⟨b, n, none⟩ 1).frozen? ⟨b', o', none⟩ = w.frozen? ⟨b', o', none⟩ := fun b' o' hb => by
    unfold World.frozen?; rw [freeze_heap w ⟨b, n, none⟩ 1 b' hb]
  have h4 := h2.drop.evolveX (w' := w.freeze ⟨b, n, none⟩ 1) (G' := g1.G) b hst (fun _ => Nat.le_refl _) (fun _ _ _ _ => rfl) (fun _ _ _ => freeze_cell ..)
    (fun b' ℓ hb _ o' => ⟨freeze_cell .., hfz b' o' hb⟩) (by rw [freeze_size]; exact Nat.le_refl _) (fun b' hb => by rw [freeze_size] at hb; exact h2.gdom b' hb)
  have hr2 : RepV X g1.φ g1.G (w.freeze ⟨b, n, none⟩ 1) (.sl .ro .byte l) (.slice (some ⟨b, off, none⟩) l.length cap) :=
    RepV.mono (w := w) (fun _ _ h => h) (fun _ => Nat.le_refl _) (fun _ _ _ => freeze_cell ..) hr.dup1
  have h5 := h4.put o.dst _ _ hr2 rfl
  refine ⟨_, _, _, _, _, .inl hrun, hk, h5, e1.trans ⟨by rw [freeze_size]; exact Nat.le_refl _, hstr.1, hstr.2.1, hstr.2.2, ?_, fun _ _ _ => freeze_cell .., fun _ => Nat.le_refl _, fun _ _ _ => rfl, fun _ _ h => h, fun _ _ h => h⟩⟩
  intro b' _ hn
  exact freeze_heap w ⟨b, n, none⟩ 1 b' (by intro e; subst e; rw [kk] at hn; cases hn)

end
end Go.Ev

/-! Slices that are written out. -/
namespace Go.Ev
section
variable {P : Program} {X : Cfg} {R : Type} {w : World}
variable {g : Gh} {env : List D} {sto : Sto} {o : Oper} {a : Act} {k : St → Option R} {r : R} {cx : Cx}

/-- What decoding a code shows: the cells are those of the value. -/
def DecOk (X : Cfg) (φ : List Nat) (G : Nat → Nat) (w : World) (t : Ty) (ds : List D) (x : t.den) (r : List D) : Prop :=
  r = ds.drop t.size ∧ t.size ≤ ds.length ∧
    ∀ vs : Nat → Value, (∀ (j : Nat) c, j < t.size → ds[j]? = some c → RepV X φ G w c (vs j)) → ∀ (j : Nat) c, (cells t x)[j]? = some c → RepV X φ G w c (vs j)

theorem decOk_leaf {φ G} {t : Ty} {x : t.den} {c c' : D} {r : List D} (hs : t.size = 1) (hc : cells t x = [c']) (h : ∀ v, RepV X φ G w c v → RepV X φ G w c' v) : DecOk X φ G w t (c :: r) x r := by
  refine ⟨by rw [hs]; rfl, by rw [hs]; simp, fun vs hv j c0 hj => ?_⟩
  rw [hc] at hj
  cases j with
  | zero => simp at hj; subst hj; exact h _ (hv 0 c (by omega) rfl)
  | succ j => simp at hj

theorem rep_ro {φ G} {m : Md} {t : Ty} {l : List t.den} {v : Value} (h : RepV X φ G w (.sl m t l) v) : RepV X φ G w (.sl .ro t l) v := by
  obtain ⟨a, cap, rfl⟩ := rep_slice_form h
  rcases rep_slice_inv h with ⟨rfl, rfl, _, rfl, _⟩ | ⟨rfl, ⟨p, rfl⟩, _, hm, hcap, hmax⟩ | ⟨b, off, vs, rfl, _, hlen, _, hmax, hp, hc, hr⟩
  · exact .slNil (by decide)
  · exact .slE (by decide) (by rintro (h | h) <;> cases h) hmax
  · exact .sl vs hlen (by intro h; cases h) hmax hp hc hr

theorem decSl_sound {φ G} {t : Ty} {ds : List D} {x : List t.den} {r : List D} (h : decSl t ds = some (x, r)) : ∃ c, ds = c :: r ∧ ∀ v, RepV X φ G w c v → RepV X φ G w (.sl .ro t x) v := by
  unfold decSl at h
  split at h
  · split at h
    · rename_i hcast
      cases h
      obtain ⟨e, hcast⟩ := castL_some hcast
      subst e; subst hcast
      exact ⟨_, rfl, fun v hv => rep_ro hv⟩
    · cases h
  · cases h
    exact ⟨_, rfl, fun v hv => by cases hv; exact .slNil (by decide)⟩
  · cases h

theorem decP_sound {φ : List Nat} {G : Nat → Nat} : ∀ (t : Ty) (ds : List D) (x : t.den) (r : List D), decP t ds = some (x, r) → DecOk X φ G w t ds x r := by
  intro t
  induction t with
  | int k =>
    intro ds x r h
    change decInt k ds = some (x, r) at h
    unfold decInt at h
    split at h
    · split at h
      · rename_i e; subst e; cases h; exact decOk_leaf rfl rfl (fun _ h => h)
      · cases h
    · cases h
  | byte =>
    intro ds x r h
    change decByte ds = some (x, r) at h
    unfold decByte at h
    split at h
    · rename_i n r0
      cases h
      refine decOk_leaf rfl rfl (fun v h => ?_)
      obtain ⟨rfl, hn⟩ := rep_int h
      have e : (((UInt8.ofNat n.toNat).toNat : Nat) : Int) = n := by
        simp only [InR, lo, hi] at hn
        rw [UInt8.toNat_ofNat']
        have : n.toNat % 2 ^ 8 = n.toNat := Nat.mod_eq_of_lt (by omega)
        rw [this]; omega
      rw [e]; exact h
    · cases h
  | bool =>
    intro ds x r h
    change decBool ds = some (x, r) at h
    unfold decBool at h
    split at h
    · cases h; exact decOk_leaf rfl rfl (fun _ h => h)
    · cases h
  | str =>
    intro ds x r h
    change decStr ds = some (x, r) at h
    unfold decStr at h
    split at h
    · cases h; exact decOk_leaf rfl rfl (fun _ h => h)
    · cases h
  | err =>
    intro ds x r h
    change decErr ds = some (x, r) at h
    unfold decErr at h
    split at h
    · cases h; exact decOk_leaf rfl rfl (fun _ h => h)
    · cases h
  | slice t =>
    intro ds x r h
    change decSl t ds = some (x, r) at h
    obtain ⟨c, rfl, hc⟩ := decSl_sound (X := X) (φ := φ) (G := G) (w := w) h
    exact decOk_leaf rfl rfl hc
  | unit =>
    intro ds x r h
    change some ((), ds) = some (x, r) at h
    cases h
    exact ⟨rfl, Nat.zero_le _, fun vs _ j c hj => by simp [cells] at hj⟩
  | pair a b iha ihb =>
    intro ds x r h
    have h' : (match decP a ds with
      | some (x, r') => (match decP b r' with
        | some (y, r'') => some ((x, y), r'')
        | none => none)
      | none => none : Option ((a.den × b.den) × List D)) = some (x, r) := h
    split at h'
    · rename_i x1 r1 h1
      split at h'
      · rename_i y1 r2 h2
        cases h'
        obtain ⟨rfl, hl1, hr1⟩ := iha _ _ _ h1
        obtain ⟨rfl, hl2, hr2⟩ := ihb _ _ _ h2
        rw [List.length_drop] at hl2
        refine ⟨by rw [List.drop_drop]; rfl, by simp only [Ty.size]; omega, fun vs hv j c hj => ?_⟩
        have hca := cells_length a x1
        simp only [cells] at hj
        by_cases hja : j < a.size
        · rw [List.getElem?_append_left (by omega)] at hj
          exact hr1 vs (fun j c hj2 hd => hv j c (by simp only [Ty.size]; omega) hd) j c hj
        · rw [List.getElem?_append_right (by omega), hca] at hj
          have := hr2 (fun j => vs (a.size + j)) (fun j c hj2 hd => hv (a.size + j) c (by simp only [Ty.size]; omega) (by rw [List.getElem?_drop] at hd; exact hd)) _ c hj
          rw [show a.size + (j - a.size) = j by omega] at this
          exact this
      · cases h'
    · cases h'
  | ex =>
    intro ds x r h
    change decEx ds = some (x, r) at h
    unfold decEx at h
    split at h
    · split at h
      · rename_i hsl
        cases h
        obtain ⟨c, rfl, hc⟩ := decSl_sound (X := X) (φ := φ) (G := G) (w := w) hsl
        refine ⟨rfl, by simp [Ty.size], fun vs hv j c0 hj => ?_⟩
        simp only [Ty.size] at hv
        match j, hj with
        | 0, hj => simp [cells] at hj; subst hj; exact hv 0 _ (by omega) rfl
        | 1, hj => simp [cells] at hj; subst hj; exact hv 1 _ (by omega) rfl
        | 2, hj => simp [cells] at hj; subst hj; exact hv 2 _ (by omega) rfl
        | 3, hj => simp [cells] at hj; subst hj; exact hv 3 _ (by omega) rfl
        | 4, hj => simp [cells] at hj; subst hj; exact hv 4 _ (by omega) rfl
        | 5, hj => simp [cells] at hj; subst hj; exact hv 5 _ (by omega) rfl
        | 6, hj => simp [cells] at hj; subst hj; exact hv 6 _ (by omega) rfl
        | 7, hj => simp [cells] at hj; subst hj; exact hc _ (hv 7 _ (by omega) rfl)
        | 8, hj => simp [cells] at hj; subst hj; exact hv 8 _ (by omega) rfl
        | 9, hj => simp [cells] at hj; subst hj; exact hv 9 _ (by omega) rfl
        | j + 10, hj => simp [cells] at hj
      · cases h
    · cases h

theorem decRow_sound {t : Ty} : ∀ {cs : List (List D)} {l : List t.den}, decRow t cs = some l → l.length = cs.length ∧ ∀ (i : Nat) x, l[i]? = some x → ∃ c, cs[i]? = some c ∧ decP t c = some (x, [])
  | [], l, h => by cases h; exact ⟨rfl, fun i x hx => by simp at hx⟩
  | c :: r, l, h => by
    unfold decRow at h
    split at h
    · rename_i x hx
      split at h
      · rename_i l' hl'
        cases h
        obtain ⟨h1, h2⟩ := decRow_sound hl'
        refine ⟨by simp [h1], fun i y hy => ?_⟩
        cases i with
        | zero => simp at hy; subst hy; exact ⟨c, rfl, hx⟩
        | succ i => simp at hy; simpa using h2 i y hy
      · cases h
    · cases h

theorem foldl_set (off : Nat) : ∀ (l : List (Value × Nat)) (V : Array Value), (l.foldl (fun cs (cj : Value × Nat) => cs.setIfInBounds (off + cj.2) cj.1) V).size = V.size
  | [], V => rfl
  | x :: l, V => by rw [List.foldl_cons, foldl_set off l]; simp

theorem foldl_set_get (off : Nat) : ∀ (xs : List Value) (n : Nat) (V : Array Value) (k : Nat), off + n + xs.length ≤ V.size →
    ((xs.zipIdx n).foldl (fun cs (cj : Value × Nat) => cs.setIfInBounds (off + cj.2) cj.1) V)[k]? = if off + n ≤ k ∧ k < off + n + xs.length then xs[k - (off + n)]? else V[k]?
  | [], n, V, k, h => by
    simp
    intro h1 h2; omega
  | x :: xs, n, V, k, h => by
    rw [List.zipIdx_cons, List.foldl_cons, foldl_set_get off xs (n + 1) _ k (by simp at h ⊢; omega)]
    simp only [List.length_cons] at h ⊢
    by_cases h1 : off + (n + 1) ≤ k ∧ k < off + (n + 1) + xs.length
    · rw [if_pos h1, if_pos (by omega)]
      rw [show k - (off + n) = (k - (off + (n + 1))) + 1 by omega]; simp
    · rw [if_neg h1]
      by_cases h2 : k = off + n
      · subst h2
        rw [if_pos (by omega), Array.getElem?_setIfInBounds_self_of_lt (by omega)]
        simp
      · rw [if_neg (by omega), Array.getElem?_setIfInBounds_ne (by omega)]

theorem fill_one {place : Nat → Option (Nat × Nat)} {V : Array Value} {i off size : Nat} {v : Value} {rest : List (Nat × Value)} (hp : place i = some (off, size)) (hs : v.cells.size = size) (hle : off + size ≤ V.size) :
    ∃ V', Instr.fill place V ((i, v) :: rest) = Instr.fill place V' rest ∧ V'.size = V.size ∧ ∀ k, V'[k]? = if off ≤ k ∧ k < off + size then v.cells[k - off]? else V[k]? := by
  refine ⟨v.cells.zipIdx.foldl (fun cs (c, j) => cs.setIfInBounds (off + j) c) V, ?_, ?_, ?_⟩
  · rw [Instr.fill]
    simp only [hp]
    have h2 : ¬ (off + size > V.size) := by omega
    simp [hs, h2]
  · rw [← Array.foldl_toList]
    exact foldl_set off _ V
  · intro k
    have e : (v.cells.zipIdx).toList = v.cells.toList.zipIdx 0 := by simp
    rw [← Array.foldl_toList, e]
    have := foldl_set_get off v.cells.toList 0 V k (by simpa [hs] using hle)
    simp only [Nat.add_zero, Array.length_toList, hs, Array.getElem?_toList] at this
    exact this

end
end Go.Ev
