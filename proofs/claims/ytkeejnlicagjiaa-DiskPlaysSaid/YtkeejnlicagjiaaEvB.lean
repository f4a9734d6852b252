/-
  The statement DiskPlays of the program is proved: for every input that the row speaks of, the law answers true.
  Conditions: those that the statement's row prints, and no other. This text: an evaluator of the model's code over plain values, and that it is sound (part 2).
-/
import Derived.Test.YtkeejnlicagjiaaEvA
import Derived.WideLaws
import Derived.Lib.Strings
import Derived.OwnWalk
import Derived.Laws.BytesString
import Derived.Lib.ConvBytes
set_option linter.unusedVariables false
set_option linter.unusedSimpArgs false
namespace Go.Ev

theorem rep_slice_inv {X φ G w} {m : Md} {t : Ty} {l : List t.den} {a : Option Addr} {len cap : Nat} (h : RepV X φ G w (.sl m t l) (.slice a len cap)) :
    (l = [] ∧ a = none ∧ len = 0 ∧ cap = 0 ∧ m ≠ .nn) ∨ (l = [] ∧ (∃ p, a = some p) ∧ len = 0 ∧ m ≠ .own ∧ (m = .cap ∨ m = .oc → cap = 0) ∧ cap ≤ 9223372036854775807) ∨ ∃ (b off : Nat) (vs : Nat → Value), a = some ⟨b, off, none⟩ ∧ len = l.length ∧ l.length ≤ cap ∧ (m = .cap → cap = l.length) ∧ cap ≤ 9223372036854775807 ∧
      off + l.length * t.size ≤ G b ∧ (∀ j, j < l.length * t.size → w.cell? ⟨b, off + j, none⟩ = some (vs j)) ∧
      (∀ (i : Nat) x, l[i]? = some x → ∀ (j : Nat) c, (cells t x)[j]? = some c → RepV X φ G w c (vs (i * t.size + j))) := by
  generalize hd : D.sl m t l = d at h
  generalize hv : Value.slice a len cap = v at h
  cases h with
  | slNil hn => cases hd; cases hv; exact .inl ⟨rfl, rfl, rfl, rfl, hn⟩
  | slE hm hcap hmax => cases hd; cases hv; exact .inr (.inl ⟨rfl, ⟨_, rfl⟩, rfl, hm, hcap, hmax⟩)
  | sl vs hlen hcap hmax hp hc hr => cases hd; cases hv; exact .inr (.inr ⟨_, _, vs, rfl, rfl, hlen, hcap, hmax, hp, hc, hr⟩)
  | _ => first | cases hd | cases hv

theorem rep_slice_form {X φ G w} {m : Md} {t : Ty} {l : List t.den} {v : Value} (h : RepV X φ G w (.sl m t l) v) : ∃ a cap, v = .slice a l.length cap := by
  generalize hd : D.sl m t l = d at h
  cases h with
  | slNil hn => cases hd; exact ⟨none, 0, rfl⟩
  | slE hm hcap hmax => cases hd; exact ⟨_, _, rfl⟩
  | sl vs hlen hcap hmax hp hc hr => cases hd; exact ⟨_, _, rfl⟩
  | _ => cases hd

theorem cell_idx {n sz i j : Nat} (hi : i < n) (hj : j < sz) : i * sz + j < n * sz :=
  Nat.lt_of_lt_of_le (Nat.add_lt_add_left hj _) (by rw [← Nat.succ_mul]; exact Nat.mul_le_mul_right _ hi)

/-- Rows of cells of two lists, one behind the other. -/
theorem rep_append {X φ G w} {t : Ty} {l l2 : List t.den} {vs : Nat → Value} {ys : List Value} {u : Nat → Value}
    (h1 : ∀ (i : Nat) x, l[i]? = some x → ∀ (j : Nat) c, (cells t x)[j]? = some c → RepV X φ G w c (vs (i * t.size + j)))
    (h2 : ∀ (i : Nat) x, l2[i]? = some x → ∀ (j : Nat) c, (cells t x)[j]? = some c → ∃ u, ys[i * t.size + j]? = some u ∧ RepV X φ G w c u)
    (e1 : ∀ j, j < l.length * t.size → u j = vs j) (e2 : ∀ j y, ys[j]? = some y → u (l.length * t.size + j) = y) :
    ∀ (i : Nat) x, (l ++ l2)[i]? = some x → ∀ (j : Nat) c, (cells t x)[j]? = some c → RepV X φ G w c (u (i * t.size + j)) := by
  intro i x hx j c hc
  have hj : j < t.size := by rw [← cells_length t x]; exact (List.getElem?_eq_some_iff.1 hc).1
  by_cases hi : i < l.length
  · rw [List.getElem?_append_left hi] at hx
    rw [e1 _ (cell_idx hi hj)]; exact h1 i x hx j c hc
  · rw [List.getElem?_append_right (by omega)] at hx
    obtain ⟨y, hy, hr⟩ := h2 _ x hx j c hc
    have e : i * t.size + j = l.length * t.size + ((i - l.length) * t.size + j) := by
      rw [Nat.sub_mul]
      have : l.length * t.size ≤ i * t.size := Nat.mul_le_mul_right _ (by omega)
      omega
    rw [e, e2 _ y hy]; exact hr

/-- The last slice under a weaker mode. -/
theorem Sim.modeLast {X g w env vals sto} {m m' : Md} {t : Ty} {l : List t.den} {v : Value} (h : Sim X g w (env ++ [.sl m t l]) (vals ++ [v]) sto)
    (hr : RepV X g.φ g.G w (.sl m' t l) v) (hk : ∀ a len cap, v = .slice (some a) len cap → m'.keeps l.length cap → m.keeps l.length cap) : Sim X g w (env ++ [.sl m' t l]) (vals ++ [v]) sto := by
  have hl : env.length = vals.length := by have := h.len; simpa using this
  refine ⟨by simp [hl], ?_, h.slen, h.obj, ?_, h.kdom, h.gdom⟩
  · intro t' d' v' hd hv
    by_cases e : t' < env.length
    · rw [List.getElem?_append_left e] at hd
      exact h.rep t' d' v' (by rw [List.getElem?_append_left e]; exact hd) hv
    · have : t' = env.length := by have := (List.getElem?_eq_some_iff.1 hd).1; simp at this; omega
      subst this
      simp at hd; rw [hl] at hv; simp at hv; subst hd; subst hv; exact hr
  · intro ℓ md ty l' a len cap ho hmd
    cases ℓ with
    | env t' j =>
      by_cases e : t' < env.length
      · exact h.own _ _ _ _ _ _ _ (ho.shift (by rw [List.getElem?_append_left e, List.getElem?_append_left e]) rfl) hmd
      · have ht : t' = env.length := by have := ho.lt; simp at this; omega
        subst ht
        generalize hℓ : Loc.env env.length j = ℓ at ho ⊢
        generalize hx : D.sl md ty l' = x at ho
        generalize hy : Value.slice (some a) len cap = y at ho
        cases ho with
        | leaf hd hv =>
          cases hℓ
          simp at hd; rw [hl] at hv; simp at hv
          subst hd; cases hx; subst hv; subst hy
          exact h.own _ m t l a len cap (.leaf (by simp) (by rw [hl]; simp)) (hk _ _ _ rfl hmd)
        | agg hd hv hj he => cases hℓ; simp at hd
        | tup hd hv hj he => cases hℓ; simp at hd
        | cell => cases hℓ
    | obj i => exact ho.not_obj.elim
    | cell i j => exact h.own _ _ _ _ _ _ _ (ho.of_slot (fun _ _ h => by cases h)) hmd

theorem rep_oc {X φ G w} {m : Md} (hm : m = .own ∨ m = .cap) {t : Ty} {l : List t.den} {v : Value} (h : RepV X φ G w (.sl m t l) v) : RepV X φ G w (.sl .oc t l) v := by
  generalize hd : D.sl m t l = d at h
  cases h with
  | slNil hn => cases hd; exact .slNil (by decide)
  | slE h1 hcap hmax =>
    cases hd
    rcases hm with rfl | rfl
    · exact absurd rfl h1
    · exact .slE (by decide) (fun _ => hcap (.inl rfl)) hmax
  | sl vs hlen hcap hmax hp hc hr => cases hd; exact .sl vs hlen (by intro h; cases h) hmax hp hc hr
  | _ => cases hd

theorem Sim.ownOc {X g w env vals sto} {t : Ty} {l : List t.den} {v : Value} (h : Sim X g w (env ++ [.sl .own t l]) (vals ++ [v]) sto) : Sim X g w (env ++ [.sl .oc t l]) (vals ++ [v]) sto := by
  have hl : env.length = vals.length := by have := h.len; simpa using this
  exact h.modeLast (rep_oc (.inl rfl) (h.rep env.length _ v (by simp) (by rw [hl]; simp))) (fun _ _ _ _ _ => .inl rfl)

theorem Sim.capOc {X g w env vals sto} {t : Ty} {l : List t.den} {v : Value} (h : Sim X g w (env ++ [.sl .cap t l]) (vals ++ [v]) sto) : Sim X g w (env ++ [.sl .oc t l]) (vals ++ [v]) sto := by
  have hl : env.length = vals.length := by have := h.len; simpa using this
  have hr := h.rep env.length (.sl .cap t l) v (by simp) (by rw [hl]; simp)
  refine h.modeLast (rep_oc (.inr rfl) hr) (fun a len cap e hk => ?_)
  subst e
  rcases hk with e | ⟨_, hlt⟩
  · cases e
  · rcases rep_slice_inv hr with ⟨_, e, _⟩ | ⟨_, _, _, _, e, _⟩ | ⟨_, _, _, _, _, _, e, _⟩
    · cases e
    · have := e (.inl rfl); omega
    · have := e rfl; omega

/-- An append that fits the spare places. -/
theorem Sim.appendIn {X g w env vals sto} {md : Md} {t : Ty} {l l2 : List t.den} {b off cap : Nat} {ys : List Value}
    (h : Sim X g w (env ++ [.sl md t l]) (vals ++ [.slice (some ⟨b, off, none⟩) l.length cap]) sto) (hmd : md.keeps l.length cap)
    (hys : ys.length = l2.length * t.size) (hfit : l.length + l2.length ≤ cap)
    (h2 : ∀ (i : Nat) x, l2[i]? = some x → ∀ (j : Nat) c, (cells t x)[j]? = some c → ∃ u, ys[i * t.size + j]? = some u ∧ RepV X g.φ g.G w c u) :
    ∃ g', Sim X g' (w.setCells b (off + l.length * t.size) ys) (env ++ [.sl .own t (l ++ l2)]) (vals ++ [.slice (some ⟨b, off, none⟩) (l.length + l2.length) cap]) sto ∧
      Ext g w g' (w.setCells b (off + l.length * t.size) ys) := by
  have hl : env.length = vals.length := by have := h.len; simpa using this
  have hrep := h.rep env.length (.sl md t l) (.slice (some ⟨b, off, none⟩) l.length cap) (by simp) (by rw [hl]; simp)
  obtain ⟨k, gg, sp⟩ := h.own (.env env.length 0) md t l ⟨b, off, none⟩ l.length cap (.leaf (by simp) (by rw [hl]; simp)) hmd
  rcases rep_slice_inv hrep with ⟨_, hz, _⟩ | ⟨hz0, _, _, hz, hz2, _⟩ | ⟨b', off', vs, hz, _, hlen, _, hmax, hp, hc, hr⟩
  · cases hz
  · rcases hmd with e | ⟨e, e2⟩
    · exact absurd e hz
    · have := hz2 (.inr e); omega
  cases hz
  simp only at k gg sp
  have hbl := h.kdom b _ k
  have hmul : (l.length + l2.length) * t.size = l.length * t.size + l2.length * t.size := Nat.add_mul ..
  have hcapm : (l.length + l2.length) * t.size ≤ cap * t.size := Nat.mul_le_mul_right _ hfit
  have hthere : ∀ j, j < ys.length → (w.cell? ⟨b, off + l.length * t.size + j, none⟩).isSome = true := fun j hj => by
    obtain ⟨⟨u, hu⟩, _⟩ := sp (l.length * t.size + j) (by omega) (by omega)
    rw [Nat.add_assoc, hu]; rfl
  generalize hw' : w.setCells b (off + l.length * t.size) ys = w'
  have hcin : ∀ j y, ys[j]? = some y → w'.cell? ⟨b, off + (l.length * t.size + j), none⟩ = some y := fun j y hy => by
    have hj := (List.getElem?_eq_some_iff.1 hy).1
    subst hw'
    rw [← Nat.add_assoc, World.cell?_setCells_in b _ _ w hthere j hj, ← hy, List.getElem?_eq_getElem hj]
  have hcout : ∀ b' o, (b' = b → o < off + l.length * t.size ∨ off + l.length * t.size + ys.length ≤ o) → w'.cell? ⟨b', o, none⟩ = w.cell? ⟨b', o, none⟩ := fun b' o ho => by
    subst hw'
    exact World.cell?_setCells_out b _ _ w ⟨b', o, none⟩ (fun h1 _ => ho h1)
  have hfz : ∀ x, w'.frozen? x = w.frozen? x := fun x => by subst hw'; exact World.frozen?_setCells b _ _ w x
  have hheap : ∀ k, k ≠ b → w'.heap[k]? = w.heap[k]? := by subst hw'; exact fun k hk => setCells_heap b k hk _ _ w
  have hsize : w'.heap.size = w.heap.size := by subst hw'; exact setCells_size b _ _ w
  have hstr : w'.os = w.os ∧ w'.tape = w.tape ∧ w'.output = w.output := by subst hw'; exact setCells_str b _ _ w
  have hst : Stale g env.length b := .inr ⟨_, _, k, Nat.le_refl _⟩
  have hprom : ∀ b' o, o < g.G b' → w'.cell? ⟨b', o, none⟩ = w.cell? ⟨b', o, none⟩ := fun b' o ho => hcout b' o (fun e => by subst e; rw [gg] at ho; exact .inl ho)
  have hG : ∀ b', g.G b' ≤ upd g.G b (off + (l.length + l2.length) * t.size) b' := fun b' => by
    by_cases e : b' = b
    · subst e; rw [upd_same, gg, hmul]; omega
    · rw [upd_ne _ _ e]; exact Nat.le_refl _
  have h0 := h.drop.evolveX (w' := w') (G' := upd g.G b (off + (l.length + l2.length) * t.size)) b hst hG (fun b' ℓ hne _ => upd_ne _ _ hne) hprom
    (fun b' ℓ hne _ o => ⟨hcout b' o (fun e => absurd e hne), hfz _⟩) (Nat.le_of_eq hsize.symm)
    (fun b' hb' => by rw [hsize] at hb'; rw [upd_ne _ _ (by omega)]; exact h.gdom b' hb')
  have hmono : ∀ d v, RepV X g.φ g.G w d v → RepV X g.φ (upd g.G b (off + (l.length + l2.length) * t.size)) w' d v := fun d v hr => hr.mono (fun _ _ h => h) hG hprom
  have h1 := h0.claim (t := t) (l := l ++ l2) (b := b) (off := off) (len := l.length + l2.length) (cap := cap) hst (by rw [hsize]; exact hbl)
    (by
      have := RepV.sl (X := X) (φ := g.φ) (G := upd g.G b (off + (l.length + l2.length) * t.size)) (w := w') (m := .own) (t := t) (l := l ++ l2) (b := b) (off := off) (cap := cap)
        (fun j => (w'.cell? ⟨b, off + j, none⟩).getD undef) (by simpa using hfit) (by intro h; cases h) hmax (by rw [upd_same, List.length_append]; exact Nat.le_refl _)
        (fun j hj => by
          rw [List.length_append, hmul] at hj
          by_cases hj2 : j < l.length * t.size
          · rw [hcout b _ (fun _ => .inl (by omega)), hc j hj2]; rfl
          · obtain ⟨j', rfl⟩ : ∃ j', j = l.length * t.size + j' := ⟨j - l.length * t.size, by omega⟩
            have hj' : j' < ys.length := by omega
            rw [hcin j' ys[j'] (List.getElem?_eq_getElem hj')]; rfl)
        (rep_append (vs := vs) (ys := ys) (u := fun j => (w'.cell? ⟨b, off + j, none⟩).getD undef) (fun i x hx j c hc => hmono _ _ (hr i x hx j c hc)) (fun i x hx j c hc => by
            obtain ⟨u, hu, hr⟩ := h2 i x hx j c hc; exact ⟨u, hu, hmono _ _ hr⟩)
          (fun j hj => by show (w'.cell? ⟨b, off + _, none⟩).getD undef = _; rw [hcout b _ (fun _ => .inl (by omega)), hc j hj]; rfl)
          (fun j y hy => by show (w'.cell? ⟨b, off + _, none⟩).getD undef = _; rw [hcin j y hy]; rfl))
      rw [List.length_append] at this
      exact this)
    (by rw [List.length_append]; exact upd_same _ _ _)
    (fun j hj1 hj2 => by
      rw [List.length_append, hmul] at hj1
      obtain ⟨⟨u, hu⟩, hf⟩ := sp j (by omega) hj2
      exact ⟨⟨u, by rw [hcout b _ (fun _ => .inr (by omega))]; exact hu⟩, (hfz _).trans hf⟩)
  refine ⟨_, h1, ⟨Nat.le_of_eq hsize.symm, hstr.1, hstr.2.1, hstr.2.2, ?_, hprom, hG, ?_, ?_, fun _ _ h => h⟩⟩
  · intro b' _ hn; exact hheap b' (by intro e; subst e; rw [k] at hn; cases hn)
  · intro b' _ hn; exact upd_ne _ _ (by intro e; subst e; rw [k] at hn; cases hn)
  · intro b' _ hn
    show upd g.κ b _ b' = none
    rw [upd_ne _ _ (by intro e; subst e; rw [k] at hn; cases hn)]; exact hn

end Go.Ev

/-! The table of types, held against the program's. -/
namespace Go.Ev

def isAggB : TypeDesc → Bool
  | .struct _ | .array _ _ => true
  | _ => false

def zero1 : D → Value → Bool
  | .int k n, .int k' n' => decide (k = k') && decide (n = n') && decide (lo k ≤ n) && decide (n ≤ hi k)
  | .bool b, .bool b' => b == b'
  | .str s, .string t => decide (s = t.data.toList) && Nat.ble t.size 9223372036854775807
  | .nilp, .pointer none => true
  | .nils, .slice none 0 0 => true
  | .err .nil, .nilIface => true
  | .nilf, .nilFunc => true
  | _, _ => false

theorem zero1_spec {d : D} {v : Value} (h : zero1 d v = true) {X φ G w} : RepV X φ G w d v ∧ d.leaf = true := by
  unfold zero1 at h
  split at h
  · simp at h
    obtain ⟨⟨⟨rfl, rfl⟩, h1⟩, h2⟩ := h
    exact ⟨.int ⟨h1, h2⟩, rfl⟩
  · simp at h; subst h; exact ⟨.bool _, rfl⟩
  · rw [Bool.and_eq_true, decide_eq_true_eq] at h
    obtain ⟨rfl, h2⟩ := h
    exact ⟨.str _ (Nat.le_of_ble_eq_true h2), rfl⟩
  · exact ⟨.nilp, rfl⟩
  · exact ⟨.nils, rfl⟩
  · exact ⟨.errNil, rfl⟩
  · exact ⟨.nilf, rfl⟩
  · cases h

def zeroL : List D → List Value → Bool
  | [], [] => true
  | d :: r, v :: s => zero1 d v && zeroL r s
  | _, _ => false

theorem zeroL_spec : ∀ {ds : List D} {vs : List Value}, zeroL ds vs = true → vs.length = ds.length ∧ ∀ (j : Nat) c, ds[j]? = some c → ∃ u, vs[j]? = some u ∧ zero1 c u = true
  | [], [], _ => ⟨rfl, fun j c h => by simp at h⟩
  | [], _ :: _, h => by cases h
  | _ :: _, [], h => by cases h
  | d :: r, v :: s, h => by
    rw [zeroL, Bool.and_eq_true] at h
    obtain ⟨h1, h2⟩ := h
    obtain ⟨hl, hg⟩ := zeroL_spec h2
    refine ⟨by simp [hl], fun j c hj => ?_⟩
    cases j with
    | zero => simp at hj; subst hj; exact ⟨v, rfl, h1⟩
    | succ j => simp at hj; simpa using hg j c hj

def fieldB (P : Program) (fi : FI) (f : Field) : Bool :=
  Nat.beq f.offset fi.off && (match P.info? f.type, P.underlying f.type with
    | some i, some d => Nat.beq i.size fi.size && (isAggB d == fi.agg) && (fi.agg || Nat.beq fi.size 1)
    | _, _ => false)

def fieldsB (P : Program) : List FI → List Field → Bool
  | [], [] => true
  | fi :: r, f :: s => fieldB P fi f && fieldsB P r s
  | _, _ => false

def descB (P : Program) : TD → TypeDesc → Bool
  | .int k, .int k' => decide (k = k')
  | .bool, .bool => true
  | .str, .string => true
  | .slice e, .slice e' => Nat.beq e e'
  | .struct fs, .struct F => fieldsB P fs F.toList
  | .array n e, .array n' e' => Nat.beq n n' && Nat.beq e e'
  | .ptr e, .pointer e' => Nat.beq e e'
  | .iface, .interface _ => true
  | .func, .func _ _ _ => true
  | .other, _ => true
  | _, _ => false

def teB (P : Program) (t : TypeId) (e : TE) : Bool :=
  match P.info? t, P.underlying t with
  | some i, some d =>
    Nat.beq i.size e.size && Nat.beq i.bytes e.bytes && (isAggB d == e.agg) && (e.agg || Nat.beq e.size 1) &&
    (match i.zero with | some z => zeroL e.zero z.cells.toList | none => false) && Nat.beq e.zero.length e.size && descB P e.d d &&
    (match e.ty with | some ty => Nat.beq ty.size e.size && (ty.agg == e.agg) && Nat.ble 1 e.size && Nat.ble 1 e.bytes | none => true)
  | _, _ => false

def tabB (P : Program) (tab : List (Nat × TE)) : Bool := tab.all fun p => teB P p.1 p.2

theorem look_mem {α : Type} : ∀ {l : List (Nat × α)} {n : Nat} {x : α}, look l n = some x → (n, x) ∈ l
  | [], _, _, h => by cases h
  | (a, y) :: r, n, x, h => by
    unfold look at h
    cases hb : Nat.beq a n with
    | true =>
      rw [hb] at h; cases h
      have := Nat.eq_of_beq_eq_true hb
      subst this; exact List.mem_cons_self
    | false => rw [hb] at h; exact List.mem_cons_of_mem _ (look_mem h)

structure TEok (P : Program) (t : TypeId) (e : TE) : Prop where
  info : ∃ i z, P.info? t = some i ∧ i.size = e.size ∧ i.bytes = e.bytes ∧ i.zero = some z ∧ zeroL e.zero z.cells.toList = true
  desc : ∃ d, P.underlying t = some d ∧ isAggB d = e.agg ∧ descB P e.d d = true
  one : e.agg = false → e.size = 1
  zlen : e.zero.length = e.size
  ty : ∀ ty, e.ty = some ty → ty.size = e.size ∧ ty.agg = e.agg ∧ 1 ≤ e.size ∧ 1 ≤ e.bytes

theorem teB_spec {P : Program} {t : TypeId} {e : TE} (h : teB P t e = true) : TEok P t e := by
  unfold teB at h
  split at h
  · rename_i i d hi hd
    simp only [Bool.and_eq_true] at h
    obtain ⟨⟨⟨⟨⟨⟨⟨h1, h2⟩, h3⟩, h4⟩, h5⟩, h6⟩, h7⟩, h8⟩ := h
    refine ⟨?_, ⟨d, hd, by simpa using h3, h7⟩, ?_, Nat.eq_of_beq_eq_true h6, ?_⟩
    · cases hz : i.zero with
      | none => rw [hz] at h5; cases h5
      | some z => rw [hz] at h5; exact ⟨i, z, hi, Nat.eq_of_beq_eq_true h1, Nat.eq_of_beq_eq_true h2, hz, h5⟩
    · intro ha; rw [ha] at h4; exact Nat.eq_of_beq_eq_true (by simpa using h4)
    · intro ty hty
      rw [hty] at h8
      simp only [Bool.and_eq_true] at h8
      exact ⟨Nat.eq_of_beq_eq_true h8.1.1.1, by simpa using h8.1.1.2, Nat.le_of_ble_eq_true h8.1.2, Nat.le_of_ble_eq_true h8.2⟩
  · cases h

theorem tab_ok {P : Program} {tab : List (Nat × TE)} (h : tabB P tab = true) {t : TypeId} {e : TE} (ht : look tab t = some e) : TEok P t e :=
  teB_spec (List.all_eq_true.1 h _ (look_mem ht))

theorem fieldsB_get {P : Program} : ∀ {fs : List FI} {F : List Field}, fieldsB P fs F = true → ∀ (j : Nat) fi, fs[j]? = some fi → ∃ f, F[j]? = some f ∧ fieldB P fi f = true
  | [], [], _, j, fi, h => by simp at h
  | [], _ :: _, h, _, _, _ => by cases h
  | _ :: _, [], h, _, _, _ => by cases h
  | a :: r, f :: s, h, j, fi, hj => by
    rw [fieldsB, Bool.and_eq_true] at h
    cases j with
    | zero => simp at hj; subst hj; exact ⟨f, rfl, h.1⟩
    | succ j => simp at hj; simpa using fieldsB_get h.2 j fi hj

end Go.Ev

/-! Each operation does in the world what it does in the evaluator: first part. -/
namespace Go.Ev

theorem rep_const {X φ G w} (v : Value) : RepV X φ G w (constD v) v := by
  unfold constD
  split
  · split
    · rename_i h1 h2; exact .int ⟨of_decide_eq_true h1, of_decide_eq_true h2⟩
    · exact .any _
  · exact .bool _
  · split
    · rename_i h; exact .str _ (Nat.le_of_ble_eq_true h)
    · exact .any _
  · exact .nilp
  · exact .nils
  · exact .errNil
  · exact .nilf
  · exact .any _

theorem const_free (v : Value) : (constD v).free = true := by
  unfold constD
  split <;> (try split) <;> rfl

theorem getD_out {α : Type} {l : List α} {n : Nat} {x : α} (h : l.length ≤ n) : l.getD n x = x := by simp [List.getD, List.getElem?_eq_none h]

theorem Sim.read {X g w env sto} {a : Act} (h : Sim X g w env a.tmps.toList sto) (x : Operand) : RepV X g.φ g.G w (rd env x) (a.eval x) := by
  cases x with
  | tmp t =>
    show RepV X g.φ g.G w (env.getD t .any) (a.tmps.getD t undef)
    by_cases ht : t < env.length
    · have hv : t < a.tmps.size := Nat.lt_of_lt_of_eq ht (h.len.trans Array.length_toList)
      refine h.rep t _ _ (by simp [List.getD, ht]) ?_
      simp [Array.getD, hv]
    · rw [getD_out (Nat.le_of_not_lt ht)]; exact .any _
  | const v => exact rep_const v
  | func f => exact .fn rfl (fun j c hj => by simp at hj)
  | global g => exact .any _

theorem rd_tmp_get {env : List D} {t : Nat} (h : t < env.length) : env[t]? = some (env.getD t .any) := by simp [List.getD, h]

/-- An operand comes to hand. -/
theorem Sim.take {X g w env sto} {a : Act} (h : Sim X g w env a.tmps.toList sto) (x : Operand) :
    ∃ g', Sim X g' w (left env x ++ [rd env x]) (a.tmps.toList ++ [a.eval x]) sto ∧ Ext g w g' w ∧ g'.φ = g.φ ∧ g'.G = g.G := by
  have hr := h.read x
  cases x with
  | tmp t =>
    by_cases ht : t < env.length
    · have hv : t < a.tmps.size := Nat.lt_of_lt_of_eq ht (h.len.trans Array.length_toList)
      exact h.hand (rd_tmp_get ht) (by simp [Act.eval, Array.getD, hv])
    · have e : rd env (.tmp t) = .any := getD_out (Nat.le_of_not_lt ht)
      have e2 : left env (.tmp t) = env := List.set_eq_of_length_le (Nat.le_of_not_lt ht)
      rw [e, e2]
      exact ⟨g, h.push _ _ (.any _) rfl, .refl _ _, rfl, rfl⟩
  | const v => exact ⟨g, h.push _ _ hr (const_free v), .refl _ _, rfl, rfl⟩
  | func f => exact ⟨g, h.push _ _ hr rfl, .refl _ _, rfl, rfl⟩
  | global b => exact ⟨g, h.push _ _ hr rfl, .refl _ _, rfl, rfl⟩

section
variable {P : Program} {X : Cfg} {R : Type}

/-- What is to be shown of an operation that yields a value. -/
def OpOk (P : Program) (X : Cfg) (o : Oper) (a : Act) (w : World) (g : Gh) (k : St → Option R) (r : R) : Prop :=
  ∃ v w' g' env' sto', ((execOp a.eval o).run P w = .ok (.value v) w' ∨ ((execOp a.eval o).run P w = .ok .skip w' ∧ v = undef)) ∧ k ⟨env', sto'⟩ = some r ∧
    Sim X g' w' env' (putV a.tmps.toList o.dst v) sto' ∧ Ext g w g' w'

theorem OpOk.wp {o : Oper} {a : Act} {w : World} {g : Gh} {k : St → Option R} {r : R} (h : OpOk P X o a w g k r) {next : Act → World → Prop} {Q : Exit → Act → World → Prop}
    (hn : ∀ v w' g' env' sto', k ⟨env', sto'⟩ = some r → Sim X g' w' env' (putV a.tmps.toList o.dst v) sto' → Ext g w g' w' → next (a.put o.dst v) w') : o.wp P a w next Q := by
  obtain ⟨v, w', g', env', sto', hrun, hk, hs, he⟩ := h
  unfold Oper.wp
  rcases hrun with hrun | ⟨hrun, rfl⟩
  · rw [hrun]; exact hn v w' g' env' sto' hk hs he
  · rw [hrun]; exact hn undef w' g' env' sto' hk hs he

/-- An operation that changes nothing, and whose value owns nothing. -/
theorem opOk_pure {o : Oper} {a : Act} {w : World} {g : Gh} {env sto} {k : St → Option R} {r : R} (h : Sim X g w env a.tmps.toList sto) (v : Value) (d : D)
    (hrun : (execOp a.eval o).run P w = .ok (.value v) w) (hr : RepV X g.φ g.G w d v) (hf : d.free = true) (hk : k ⟨put env o.dst d, sto⟩ = some r) : OpOk P X o a w g k r :=
  ⟨v, w, g, _, _, .inl hrun, hk, h.put o.dst d v hr hf, .refl _ _⟩

variable {o : Oper} {a : Act} {w : World} {g : Gh} {env : List D} {sto : Sto} {k : St → Option R} {r : R}

theorem op_move (x : Operand) (ho : o.op = .move x ∨ o.op = .assign x) (h : Sim X g w env a.tmps.toList sto)
    (hk : k ⟨put (left env x) o.dst (rd env x), sto⟩ = some r) : OpOk P X o a w g k r := by
  obtain ⟨g1, h1, e1, _⟩ := h.take x
  obtain ⟨g2, h2, e2, _⟩ := h1.lay o.dst
  exact ⟨a.eval x, w, g2, _, _, .inl (by rcases ho with ho | ho <;> simp [execOp, ho]), hk, h2, e1.trans e2⟩

theorem op_copy (x : Operand) (ho : o.op = .move x) (h : Sim X g w env a.tmps.toList sto)
    (hk : k ⟨put env o.dst (rd env x).dup, sto⟩ = some r) : OpOk P X o a w g k r :=
  opOk_pure h (a.eval x) _ (by simp [execOp, ho]) (h.read x).dup (dup_free _) hk

theorem rep_bool {φ G} {b : Bool} {v : Value} (h : RepV X φ G w (.bool b) v) : v = .bool b := by
  generalize hd : D.bool b = d at h
  cases h <;> cases hd; rfl

theorem rep_int {φ G} {kd : IntKind} {n : Int} {v : Value} (h : RepV X φ G w (.int kd n) v) : v = .int kd n ∧ InR kd n := by
  generalize hd : D.int kd n = d at h
  cases h <;> cases hd
  exact ⟨rfl, by assumption⟩

theorem rep_str {φ G} {s : List UInt8} {v : Value} (h : RepV X φ G w (.str s) v) : v = .string ⟨s.toArray⟩ ∧ s.length ≤ 9223372036854775807 := by
  generalize hd : D.str s = d at h
  cases h <;> cases hd
  rename_i s h
  exact ⟨rfl, h⟩

theorem rep_ptr {φ G} {i off : Nat} {v : Value} (h : RepV X φ G w (.ptr i off) v) : ∃ b, φ[i]? = some b ∧ v = .pointer (some ⟨b, off, none⟩) := by
  generalize hd : D.ptr i off = d at h
  cases h <;> cases hd
  exact ⟨_, by assumption, rfl⟩

theorem rep_box {φ G} {cs : List D} {v : Value} (h : RepV X φ G w (.box cs) v) :
    ∃ (b off : Nat) (vs : Nat → Value), v = .pointer (some ⟨b, off, none⟩) ∧ off + cs.length ≤ G b ∧ (∀ j, j < cs.length → w.cell? ⟨b, off + j, none⟩ = some (vs j)) ∧
      (∀ (j : Nat) c, cs[j]? = some c → c.closed = true) ∧ (∀ (j : Nat) c, cs[j]? = some c → RepV X φ G w c (vs j)) := by
  generalize hd : D.box cs = d at h
  cases h <;> cases hd
  exact ⟨_, _, _, rfl, by assumption, by assumption, by assumption, by assumption⟩

theorem op_pick (c x y : Operand) (ho : o.op = .pick c x y) (h : Sim X g w env a.tmps.toList sto) (t : Bool) (hc : rd env c = .bool t)
    (hk : k ⟨put env o.dst (rd env (if t then x else y)).dup, sto⟩ = some r) : OpOk P X o a w g k r := by
  have hb := rep_bool (hc ▸ h.read c)
  refine opOk_pure h (a.eval (if t then x else y)) _ ?_ (h.read _).dup (dup_free _) hk
  cases t <;> simp [execOp, ho, hb, asBool]

theorem op_nilCheck (x : Operand) (ho : o.op = .nilCheck x) (h : Sim X g w env a.tmps.toList sto)
    (hx : (∃ i off, rd env x = .ptr i off) ∨ (∃ cs, rd env x = .box cs) ∨ (∃ f cs, rd env x = .fn f cs))
    (hk : k ⟨put env o.dst (rd env x), sto⟩ = some r) : OpOk P X o a w g k r := by
  have hr := h.read x
  refine opOk_pure h (a.eval x) _ ?_ hr ?_ hk
  · rcases hx with ⟨i, off, hx⟩ | ⟨cs, hx⟩ | ⟨f, cs, hx⟩
    · obtain ⟨b, _, hv⟩ := rep_ptr (hx ▸ hr); simp [execOp, ho, hv]
    · obtain ⟨b, off, vs, hv, _⟩ := rep_box (hx ▸ hr); simp [execOp, ho, hv]
    · rw [hx] at hr
      generalize hd : D.fn f cs = d at hr
      generalize hv : a.eval x = v at hr
      cases hr <;> cases hd
      simp [execOp, ho, hv]
  · rcases hx with ⟨i, off, hx⟩ | ⟨cs, hx⟩ | ⟨f, cs, hx⟩ <;> rw [hx] <;> rfl

theorem run_zero {P : Program} {t : TypeId} {i : TypeInfo} {z : Value} (hi : P.info? t = some i) (hz : i.zero = some z) (w : World) : (zeroValue t).run P w = .ok z w := by
  simp [zeroValue, typeInfo, hi, hz]

theorem op_alloc (t : TypeId) (ho : o.op = .alloc t) (h : Sim X g w env a.tmps.toList sto) {e : TE} (he : TEok P t e) (h1 : e.zero ≠ [])
    (hk : k ⟨put env o.dst (.ptr sto.length 0), sto ++ [e.zero]⟩ = some r) : OpOk P X o a w g k r := by
  obtain ⟨i, z, hi, _, _, hz, hzl⟩ := he.info
  obtain ⟨hl, hg⟩ := zeroL_spec hzl
  have hrep : RepV X g.φ g.G w (.agg e.zero) (.agg z.cells) := .agg (by simpa using hl) (fun j c hj => by
    obtain ⟨u, hu, hz1⟩ := hg j c hj
    have : (z.cells).getD j undef = u := by
      have hu' : z.cells[j]? = some u := by simpa using hu
      have := (Array.getElem?_eq_some_iff.1 hu')
      simp [Array.getD, this.1, this.2]
    rw [this]; exact (zero1_spec hz1).1)
  have hfree : (D.agg e.zero).free = true := by
    simp only [D.free, List.all_eq_true]
    intro c hc
    obtain ⟨j, hj⟩ := List.mem_iff_getElem?.1 hc
    obtain ⟨u, hu, hz1⟩ := hg j c hj
    unfold zero1 at hz1
    split at hz1 <;> first | rfl | cases hz1
  obtain ⟨g1, h2, e1⟩ := (h.push _ _ hrep hfree).bury h1 t
  obtain ⟨g2, h3, e2, _⟩ := h2.lay o.dst
  refine ⟨_, _, g2, _, _, .inl ?_, hk, h3, e1.trans e2⟩
  simp [execOp, ho, Instr.alloc, Sem.run_bind, run_zero hi hz, newVar, newRow]
  rfl

theorem op_box (t : TypeId) (x : Operand) (ho : o.op = .box t x) (h : Sim X g w env a.tmps.toList sto) (h1 : (rd env x).cells ≠ [])
    (hk : k ⟨put (left env x) o.dst (.ptr sto.length 0), sto ++ [(rd env x).cells]⟩ = some r) : OpOk P X o a w g k r := by
  obtain ⟨g0, h0, e0, _⟩ := h.take x
  obtain ⟨g1, h2, e1⟩ := h0.bury h1 t
  obtain ⟨g2, h3, e2, _⟩ := h2.lay o.dst
  refine ⟨_, _, g2, _, _, .inl ?_, hk, h3, e0.trans (e1.trans e2)⟩
  simp [execOp, ho, Instr.box, newVar, newRow]

end
end Go.Ev

/-! Loads and stores. -/
namespace Go.Ev
section
variable {P : Program} {X : Cfg} {R : Type}
variable {o : Oper} {a : Act} {w : World} {g : Gh} {env : List D} {sto : Sto} {k : St → Option R} {r : R}

theorem run_isAgg {t : TypeId} {d : TypeDesc} (h : P.underlying t = some d) (w : World) : (isAgg t).run P w = .ok (isAggB d) w := by
  unfold isAgg
  rw [Sem.run_bind, run_underlying h w]
  cases d <;> rfl

theorem ofCells_free (b : Bool) (cs : List D) : (ofCells b (cs.map D.dup1)).free = true := by
  cases b with
  | true => simp only [ofCells, D.free, List.all_map, List.all_eq_true]; intro c _; exact dup1_free1 c
  | false => exact dup_free _

theorem run_loadAt {φ : List Nat} {G : Nat → Nat} {t : TypeId} {e : TE} (he : TEok P t e) {b off : Nat} {cs : List D} (hl : cs.length = e.size)
    (hc : ∀ (j : Nat) c, cs[j]? = some c → ∃ v, w.cell? ⟨b, off + j, none⟩ = some v ∧ RepV X φ G w c v) :
    ∃ v, (Instr.loadAt t (.pointer (some ⟨b, off, none⟩))).run P w = .ok v w ∧ RepV X φ G w (ofCells e.agg (cs.map D.dup1)) v := by
  obtain ⟨i, z, hi, hsz, _⟩ := he.info
  obtain ⟨d, hd, hagg, _⟩ := he.desc
  cases ha : e.agg with
  | true =>
    rw [ha] at hagg
    let us : List Value := (List.range e.size).map fun j => (w.cell? ⟨b, off + j, none⟩).getD undef
    have hus : us.length = e.size := by simp [us]
    have hget : ∀ j, j < e.size → us[j]? = some ((w.cell? ⟨b, off + j, none⟩).getD undef) := fun j hj => by simp [us, hj]
    have hrange : w.rangeAt b off us := fun j v hv => by
      have hj : j < e.size := hus ▸ (List.getElem?_eq_some_iff.1 hv).1
      rw [hget j hj] at hv; cases hv
      obtain ⟨v, h1, _⟩ := hc j (cs[j]'(by omega)) (by simp)
      rw [h1]; rfl
    refine ⟨_, run_loadAt_mid w b off t us d hrange hd (by cases d <;> first | rfl | (simp [isAggB] at hagg)) (by rw [hi, hus, ← hsz]; rfl), ?_⟩
    refine .agg (by simp [hus, hl]) (fun j c hj => ?_)
    simp only [List.getElem?_map, Option.map_eq_some_iff] at hj
    obtain ⟨c0, h0, rfl⟩ := hj
    obtain ⟨v, h1, h2⟩ := hc j c0 h0
    have hj : j < e.size := hl ▸ (List.getElem?_eq_some_iff.1 h0).1
    have hg := hget j hj
    rw [h1] at hg
    have : us.toArray.getD j undef = v := by
      have := List.getElem?_eq_some_iff.1 hg
      simp [Array.getD, this.1, this.2]
    rw [this]; exact h2.dup1
  | false =>
    rw [ha] at hagg
    have h1 := he.one ha
    match cs, hl with
    | [c], _ =>
      obtain ⟨v, hv, hr⟩ := hc 0 c rfl
      refine ⟨v, ?_, hr.dup1.dup⟩
      simp only [Nat.add_zero] at hv
      simp [Instr.loadAt, Instr.sureAddr, loadVar, Sem.run_bind, run_isAgg hd, hagg, hv]
    | [], hl => simp at hl; omega
    | _ :: _ :: _, hl => simp at hl; omega

theorem op_load (t : TypeId) (x : Operand) (ho : o.op = .load t x) (h : Sim X g w env a.tmps.toList sto) {e : TE} (he : TEok P t e) {i off : Nat} {cs : List D}
    (hx : rd env x = .ptr i off) (hi : rowOf sto i = some cs) (hle : off + e.size ≤ cs.length)
    (hk : k ⟨put env o.dst (ofCells e.agg (((cs.drop off).take e.size).map D.dup1)), sto⟩ = some r) : OpOk P X o a w g k r := by
  obtain ⟨b, hb, hv⟩ := rep_ptr (hx ▸ h.read x)
  obtain ⟨hi, ha⟩ := rowOf_spec hi
  have hobj := fun (hn : cs ≠ []) => (h.obj i b cs hb hi).obj ha hn
  obtain ⟨v, hrun, hr⟩ := run_loadAt (X := X) (φ := g.φ) (G := g.G) (w := w) he (b := b) (off := off) (cs := (cs.drop off).take e.size) (by simp; omega) (fun j c hj => by
    have hj2 : j < e.size := by have := (List.getElem?_eq_some_iff.1 hj).1; simp at this; omega
    rw [List.getElem?_take] at hj
    simp only [hj2, if_true, List.getElem?_drop] at hj
    obtain ⟨v, h1, _, h2⟩ := (hobj (by intro e; subst e; simp at hj)).cell (off + j) c hj
    exact ⟨v, h1, h2⟩)
  exact opOk_pure h v _ (by simp [execOp, ho, hv, hrun]) hr (ofCells_free _ _) hk

theorem op_loadBox (t : TypeId) (x : Operand) (ho : o.op = .load t x) (h : Sim X g w env a.tmps.toList sto) {e : TE} (he : TEok P t e) {cs : List D}
    (hx : rd env x = .box cs) (hle : e.size ≤ cs.length)
    (hk : k ⟨put env o.dst (ofCells e.agg ((cs.take e.size).map D.dup1)), sto⟩ = some r) : OpOk P X o a w g k r := by
  obtain ⟨b, off, vs, hv, _, hc, _, hr0⟩ := rep_box (hx ▸ h.read x)
  obtain ⟨v, hrun, hr⟩ := run_loadAt (X := X) (φ := g.φ) (G := g.G) (w := w) he (b := b) (off := off) (cs := cs.take e.size) (by simp; omega) (fun j c hj => by
    have hj2 : j < e.size := by have := (List.getElem?_eq_some_iff.1 hj).1; simp at this; omega
    rw [List.getElem?_take] at hj
    simp only [hj2, if_true] at hj
    exact ⟨vs j, hc j (List.getElem?_eq_some_iff.1 hj).1, hr0 j c hj⟩)
  exact opOk_pure h v _ (by simp [execOp, ho, hv, hrun]) hr (ofCells_free _ _) hk

/-- A cell of an object comes to hand, with what it owns. -/
theorem Sim.pull {X g w env vals sto} (h : Sim X g w env vals sto) {i b j : Nat} {cs : List D} {c : D} {v : Value} (hi : sto[i]? = some cs) (ha : arrOf cs = none) (hb : g.φ[i]? = some b)
    (hj : cs[j]? = some c) (hv : w.cell? ⟨b, j, none⟩ = some v) (hlf : c.leaf = true) :
    ∃ g', Sim X g' w (env ++ [c]) (vals ++ [v]) (sto.set i (cs.set j c.dup1)) ∧ Ext g w g' w ∧ g'.φ = g.φ ∧ g'.G = g.G := by
  have hobj := (h.obj i b cs hb hi).obj ha (by intro e; subst e; simp at hj)
  obtain ⟨v0, hv0, hf0, hr0⟩ := hobj.cell j c hj
  rw [hv] at hv0; cases hv0
  let ρ : Loc → Loc := fun ℓ => if ℓ = .cell i j then .env env.length 0 else ℓ
  have hjl := (List.getElem?_eq_some_iff.1 hj).1
  have hil := (List.getElem?_eq_some_iff.1 hi).1
  refine ⟨{ g with κ := fun b => (g.κ b).map ρ }, ⟨by simp [h.len], ?_, by simp [h.slen], ?_, ?_, ?_, h.gdom⟩, .names ρ, rfl, rfl⟩
  · intro t d u hd hu
    rcases getElem?_snoc hd with ⟨hl, hd⟩ | ⟨rfl, rfl⟩
    · rw [List.getElem?_append_left (h.len ▸ hl)] at hu; exact h.rep t d u hd hu
    · rw [h.len] at hu; simp at hu; subst hu; exact hr0
  · intro i' b' cs' hb' hi'
    rcases get_set_eq hi' with ⟨rfl, _, rfl⟩ | ⟨hne, hi'⟩
    · rw [hb] at hb'; cases hb'
      have hcell' : ∀ (j' : Nat) c', (cs.set j c.dup1)[j']? = some c' → ∃ u, w.cell? ⟨b, j', none⟩ = some u ∧ w.frozen? ⟨b, j', none⟩ = false ∧ RepV X g.φ g.G w c' u := by
        intro j' c' hj'
        rcases get_set_eq hj' with ⟨rfl, _, rfl⟩ | ⟨_, hj'⟩
        · exact ⟨v, hv, hf0, hr0.dup1⟩
        · exact hobj.cell j' c' hj'
      exact SimR.ofO ⟨by show (g.κ b).map ρ = _; rw [hobj.k]; rfl, hobj.g0, hcell'⟩ (arrOf_rep (f := fun j => (w.cell? ⟨b, j, none⟩).getD undef) (fun j c hj => by obtain ⟨u, hu, _, hr⟩ := hcell' j c hj; rw [hu]; exact hr))
    · exact (h.obj i' b' cs' hb' hi').map (fun b2 k => ⟨by show (g.κ b2).map ρ = _; rw [k]; rfl, id, fun _ => ⟨rfl, rfl⟩⟩) (fun _ _ h => h)
  · intro ℓ md ty l a len cap ho hmd
    have fin : ∀ ℓ0, ρ ℓ0 = ℓ → Occ g.φ w env vals sto ℓ0 (.sl md ty l) (.slice (some a) len cap) →
        Own1 (fun b => (g.κ b).map ρ) g.G w ℓ ty.size l.length a cap := by
      intro ℓ0 hℓ ho0
      obtain ⟨k, gg, sp⟩ := h.own _ _ _ _ _ _ _ ho0 hmd
      exact ⟨by show (g.κ a.block).map ρ = _; rw [k]; exact congrArg some hℓ, gg, sp⟩
    cases ℓ with
    | env t j' =>
      by_cases ht : t < env.length
      · refine fin (.env t j') (by simp [ρ]) ?_
        have := ho.shift (env' := env) (vals' := vals) (t' := t) (List.getElem?_append_left ht).symm (List.getElem?_append_left (h.len ▸ ht)).symm
        generalize hℓ : Loc.env t j' = ℓ at this ⊢
        cases this with
        | leaf hd hv => exact .leaf hd hv
        | agg hd hv hj he => exact .agg hd hv hj he
        | tup hd hv hj he => exact .tup hd hv hj he
        | cell => cases hℓ
      · have he : t = env.length := by have := ho.lt; simp at this; omega
        subst he
        generalize hℓ : Loc.env env.length j' = ℓ at ho
        generalize hx : D.sl md ty l = x at ho
        generalize hy : Value.slice (some a) len cap = y at ho
        cases ho with
        | leaf hd hv' =>
          cases hℓ
          simp at hd; rw [h.len] at hv'; simp at hv'
          subst hd; subst hx; subst hv'; subst hy
          exact fin (.cell i j) (by simp [ρ]) (.cell hi hb hj hv)
        | agg hd hv' hj' he => cases hℓ; simp at hd; subst hd; cases hlf
        | tup hd hv' hj' he => cases hℓ; simp at hd; subst hd; cases hlf
        | cell => cases hℓ
    | obj i => exact ho.not_obj.elim
    | cell i' j' =>
      generalize hℓ : Loc.cell i' j' = ℓ at ho
      generalize hx : D.sl md ty l = x at ho
      generalize hy : Value.slice (some a) len cap = y at ho
      cases ho with
      | leaf => cases hℓ
      | agg => cases hℓ
      | tup => cases hℓ
      | cell hi' hb' hj' hv' =>
        cases hℓ
        rename_i b' cs'
        subst hx; subst hy
        rcases get_set_eq hi' with ⟨rfl, _, rfl⟩ | ⟨hne, hi'⟩
        · have e : b' = b := by
            have hb'' : g.φ[i]? = some b' := hb'
            rw [hb] at hb''; exact (Option.some.inj hb'').symm
          subst e
          rcases get_set_eq hj' with ⟨rfl, _, e⟩ | ⟨hne, hj'⟩
          · have := dup1_free1 c; rw [← e, (keeps_free1 hmd).1] at this; cases this
          · exact fin (.cell i j') (by simp [ρ, Ne.symm hne]) (.cell hi hb hj' hv')
        · exact fin (.cell i' j') (by simp [ρ, Ne.symm hne]) (.cell hi' hb' hj' hv')
  · intro b' ℓ hb'
    have hb'' : (g.κ b').map ρ = some ℓ := hb'
    cases hk : g.κ b' with
    | none => rw [hk] at hb''; cases hb''
    | some ℓ' => exact h.kdom b' ℓ' hk

theorem op_loadTake (t : TypeId) (x : Operand) (ho : o.op = .load t x) (h : Sim X g w env a.tmps.toList sto) {e : TE} (he : TEok P t e) (hag : e.agg = false) {i off : Nat} {cs : List D} {c : D}
    (hx : rd env x = .ptr i off) (hi : rowOf sto i = some cs) (hc : cs[off]? = some c) (hlf : c.leaf = true)
    (hk : k ⟨put env o.dst c, sto.set i (cs.set off c.dup1)⟩ = some r) : OpOk P X o a w g k r := by
  obtain ⟨b, hb, hv⟩ := rep_ptr (hx ▸ h.read x)
  obtain ⟨hi, ha⟩ := rowOf_spec hi
  have hobj := (h.obj i b cs hb hi).obj ha (by intro e; subst e; simp at hc)
  obtain ⟨v, hcell, _, _⟩ := hobj.cell off c hc
  obtain ⟨g1, h1, e1, _⟩ := h.pull hi ha hb hc hcell hlf
  obtain ⟨g2, h2, e2, _⟩ := h1.lay o.dst
  obtain ⟨d, hd, hagg, _⟩ := he.desc
  rw [hag] at hagg
  refine ⟨v, w, g2, _, _, .inl ?_, hk, h2, e1.trans e2⟩
  simp [execOp, ho, hv, Instr.loadAt, Instr.sureAddr, loadVar, Sem.run_bind, run_isAgg hd, hagg, hcell]

theorem op_store (t : TypeId) (x y : Operand) (ho : o.op = .store t x y) (h : Sim X g w env a.tmps.toList sto) {e : TE} (he : TEok P t e) {i off : Nat} {cs : List D}
    (hx : rd env x = .ptr i off) (hi : rowOf sto i = some cs) (hle : off + e.size ≤ cs.length) (hf : fits (rd env y).cells e.size = true)
    (hk : k ⟨put (left env y) o.dst (.tup []), sto.set i (splice cs off (rd env y).cells)⟩ = some r) : OpOk P X o a w g k r := by
  obtain ⟨hlen, hlv, h1⟩ := fits_spec hf
  have hne : (rd env y).cells ≠ [] := by intro e0; rw [e0] at hlen; simp at hlen; omega
  obtain ⟨b, hb, hv⟩ := rep_ptr (hx ▸ h.read x)
  obtain ⟨hsz, hcr⟩ := cells_rep (h.read y) hne
  obtain ⟨hi, ha⟩ := rowOf_spec hi
  have hobj := (h.obj i b cs hb hi).obj ha (by intro e0; subst e0; rw [List.length_nil] at hle; omega)
  obtain ⟨g1, h2, e1, eφ, eG⟩ := h.take y
  obtain ⟨g2, h3, e2⟩ := h2.storeIn (off := off) hi ha (by rw [eφ]; exact hb) hne (by rw [hlen]; exact hle)
  have h4 := h3.put o.dst (.tup []) undef (.tup rfl (fun j c hj => by simp at hj)) rfl
  obtain ⟨inf, z, hinf, hs, _⟩ := he.info
  have hin : ∀ j, j < (a.eval y).cells.toList.length → off + j < cs.length := fun j hj => by
    rw [Array.length_toList, hsz, hlen] at hj
    exact Nat.lt_of_lt_of_le (Nat.add_lt_add_left hj off) hle
  have hcells : (storeCells ⟨b, off, none⟩ (a.eval y).cells.toList).run P w = .ok () (w.setCells b off (a.eval y).cells.toList) := by
    have := run_storeCells_cells (P := P) b off (a.eval y).cells.toList 0 w (fun j hj => by
        obtain ⟨u, hu, _, _⟩ := hobj.cell (off + j) (cs[off + j]'(hin j hj)) (by simp)
        simp [hu]) (fun j hj => by
        obtain ⟨u, _, hu, _⟩ := hobj.cell (off + j) (cs[off + j]'(hin j hj)) (by simp)
        simpa using hu)
      (fun u hu => by
        obtain ⟨j, hj⟩ := List.mem_iff_getElem?.1 hu
        have hjl : j < (rd env y).cells.length := by
          have := (List.getElem?_eq_some_iff.1 hj).1
          rw [Array.length_toList, hsz] at this; exact this
        obtain ⟨u', hu', hr⟩ := hcr j ((rd env y).cells[j]) (by simp)
        have : u = u' := by
          have hj' : (a.eval y).cells[j]? = some u := by simpa using hj
          rw [hj'] at hu'; exact Option.some.inj hu'
        subst this
        exact rep_one hr (leaves_get hlv j _ (by simp)))
    simpa using this
  refine ⟨undef, _, g2, _, _, .inr ⟨?_, rfl⟩, hk, h4, e1.trans e2⟩
  have hs2 : (a.eval y).cells.size = inf.size := by rw [hsz, hlen, hs]
  simp [execOp, ho, hv, Instr.storeAt, Instr.sureAddr, storeVar, sizeOf, typeInfo, hinf, hs2, hcells, Sem.run_bind]

end
end Go.Ev

/-! Numbers, strings, truths. -/
namespace Go.Ev
section
variable {P : Program} {X : Cfg} {R : Type} {φ : List Nat} {G : Nat → Nat} {w : World}

theorem InR_fdiv {k : IntKind} {a : Int} (h : InR k a) (m : Nat) : InR k (a.fdiv (2 ^ m)) := by
  have hp : (1 : Int) ≤ 2 ^ m := by
    have := Nat.one_le_two_pow (n := m)
    exact_mod_cast this
  have h0 : (0 : Int) < 2 ^ m := by omega
  rw [Int.fdiv_eq_ediv_of_nonneg _ (by omega)]
  obtain ⟨hl, hh⟩ := h
  have hneg : ∀ x : Int, x < 0 → x ≤ x / 2 ^ m := fun x hx => by
    have h1 : x * 2 ^ m ≤ x * 1 := Int.mul_le_mul_of_nonpos_left (by omega) hp
    have h2 := Int.ediv_le_ediv h0 h1
    rw [Int.mul_ediv_cancel _ (by omega)] at h2
    have h3 : x * 1 / 2 ^ m = x / 2 ^ m := by rw [Int.mul_one]
    omega
  constructor
  · by_cases ha : 0 ≤ a
    · have := Int.ediv_nonneg ha (by omega : (0 : Int) ≤ 2 ^ m)
      have : lo k ≤ 0 := by cases k <;> simp [lo]
      omega
    · exact Int.le_trans hl (hneg a (by omega))
  · by_cases ha : 0 ≤ a
    · exact Int.le_trans (Int.ediv_le_self _ ha) hh
    · have h1 : a / 2 ^ m < 0 := Int.ediv_neg_of_neg_of_pos (by omega) h0
      have : 0 ≤ hi k := by cases k <;> simp [hi]
      omega

theorem InR_tmod {k : IntKind} {a b : Int} (h : InR k a) : InR k (a.tmod b) := by
  obtain ⟨hl, hh⟩ := h
  have h0 : lo k ≤ 0 := by cases k <;> simp [lo]
  have h1 : 0 ≤ hi k := by cases k <;> simp [hi]
  have h2 := Int.natAbs_tmod a b
  have h3 := Nat.mod_le a.natAbs b.natAbs
  by_cases ha : 0 ≤ a
  · have := Int.tmod_nonneg b ha
    exact ⟨by omega, by omega⟩
  · have h4 := Int.tmod_nonneg (a := -a) b (by omega)
    rw [Int.neg_tmod] at h4
    exact ⟨by omega, by omega⟩

/-- What two numbers come to. -/
theorem run_bin_int {op : BinOp} {t : TypeId} {kx : IntKind} {a b : Int} {d : D} {v : Value} (hrun : (binOp op t (.int kx a) (.int kx b)).run P w = .ok v w) :
    (binOp op t (.int kx a) (.int kx b)).run P w = .ok v w := hrun

theorem bits_eq (op : BinOp) (k : IntKind) (a b : Int) (h : op = .and ∨ op = .or ∨ op = .xor ∨ op = .andNot) (w : World) :
    (Op.intBits op k a b).run P w = .ok (.int k (bits op k a b)) w := by
  rcases h with rfl | rfl | rfl | rfl <;> rfl

theorem beq_dec {α : Type} [DecidableEq α] (a b : α) : (a == b) = decide (a = b) := by
  rw [Bool.eq_iff_iff]; simp

def ekB (P : Program) (t : TypeId) (k : EK) : Bool := match P.underlying t, k with
  | some (.int k'), .int k => decide (k' = k)
  | some .bool, .bool => true
  | some .string, .str => true
  | _, _ => false

def eqFB (P : Program) : List Field → Nat → List EK → Bool
  | [], _, [] => true
  | f :: r, o, k :: ks => match Nat.beq f.offset o, f.name == "_", ekB P f.type k with
    | true, false, true => eqFB P r (o + 1) ks
    | _, _, _ => false
  | _, _, _ => false

/-- Structs of numbers, truths and texts alone, in a row. -/
def eqTB (P : Program) (t : TypeId) (ks : List EK) : Bool := match P.underlying t with
  | some (.struct fs) => match P.stoodInHeld t, P.eqGuardType P.depth t with
    | false, false => eqFB P fs.toList 0 ks
    | _, _ => false
  | _ => false

theorem ok_then {α β : Type} (x : α) (w : World) (f : α → World → Result β) : (Result.ok x w).andThen f = f x w := rfl

theorem run_part {t : TypeId} {d : TypeDesc} (hd : P.underlying t = some d) (ha : isAggB d = false) {cs : Array Value} {o : Nat} {v : Value} (h : cs[o]? = some v) : (part t cs o).run P w = .ok v w := by
  simp [part, Sem.run_bind, run_isAgg hd, ha, h]

theorem eqL_cons {a b : D} {r s : List D} {x : Bool} (h : eqL (a :: r) (b :: s) = some x) : ∃ y z, eq1 a b = some y ∧ eqL r s = some z ∧ x = (y && z) := by
  cases r with
  | nil =>
    cases s with
    | nil => simp only [eqL] at h; exact ⟨x, true, h, rfl, by simp⟩
    | cons c s => simp only [eqL] at h; split at h <;> cases h
                  all_goals (rename_i h1 h2; exact ⟨_, _, h1, h2, rfl⟩)
  | cons c r =>
    simp only [eqL] at h
    split at h
    · rename_i h1 h2; cases h; exact ⟨_, _, h1, h2, rfl⟩
    · cases h

theorem beq_bytes (a b : List UInt8) : (({ data := a.toArray } : ByteArray) == { data := b.toArray }) = decide (a = b) := by
  rw [Bool.eq_iff_iff]
  change (a.toArray == b.toArray) = true ↔ _
  simp

theorem eq_loop {φ : List Nat} {G : Nat → Nat} {vs us : Array Value} (n : Nat) : ∀ (fl : List Field) (o : Nat) (ks : List EK) (cs ds : List D) (b : Bool), eqFB P fl o ks = true → kindsB ks cs = true → kindsB ks ds = true →
    (∀ (j : Nat) c, cs[j]? = some c → ∃ v, vs[o + j]? = some v ∧ RepV X φ G w c v) → (∀ (j : Nat) c, ds[j]? = some c → ∃ v, us[o + j]? = some v ∧ RepV X φ G w c v) → eqL cs ds = some b →
    Sem.run P (forIn fl (none, ()) fun f __s =>
            if f.name = "_" then pure (ForInStep.yield (none, ()))
            else do
              let __do_lift ← part f.type vs f.offset
              let __do_lift_1 ← part f.type us f.offset
              let __do_lift ← Op.equalIn (n + 1) f.type __do_lift __do_lift_1
              if __do_lift = false then pure (ForInStep.done (some false, ())) else pure (ForInStep.yield (none, ()))) w = .ok (if b then (none, ()) else (some false, ())) w
  | [], o, ks, cs, ds, b, hf, hc, hd, _, _, hb => by
    cases ks with
    | cons _ _ => simp [eqFB] at hf
    | nil =>
      cases cs with
      | cons _ _ => simp [kindsB] at hc
      | nil =>
        cases ds with
        | cons _ _ => simp [kindsB] at hd
        | nil => simp [eqL] at hb; subst hb; rfl
  | f :: r, o, ks, cs, ds, b, hf, hc, hd, hvs, hus, hb => by
    cases ks with
    | nil => simp [eqFB] at hf
    | cons k ks =>
      unfold eqFB at hf
      split at hf
      · rename_i h1 h2 h3
        have ho := Nat.eq_of_beq_eq_true h1
        have hnm : ¬ f.name = "_" := by intro e; rw [e] at h2; simp at h2
        obtain ⟨c, cs, rfl⟩ : ∃ c r, cs = c :: r := by cases cs with
          | nil => simp [kindsB] at hc
          | cons c r => exact ⟨c, r, rfl⟩
        obtain ⟨d, ds, rfl⟩ : ∃ c r, ds = c :: r := by cases ds with
          | nil => simp [kindsB] at hd
          | cons c r => exact ⟨c, r, rfl⟩
        obtain ⟨y, z, hy, hz, rfl⟩ := eqL_cons hb
        obtain ⟨v, hv, hrv⟩ := hvs 0 c rfl
        obtain ⟨u, hu, hru⟩ := hus 0 d rfl
        rw [Nat.add_zero, ← ho] at hv hu
        have key : kindsB ks cs = true ∧ kindsB ks ds = true ∧ ∃ dd, P.underlying f.type = some dd ∧ isAggB dd = false ∧ (Op.equalIn (n + 1) f.type v u).run P w = .ok y w := by
          unfold ekB at h3
          cases k with
          | int k =>
            split at h3
            · rename_i k' k2 hud he
              have := of_decide_eq_true h3
              cases he
              subst this
              cases c <;> simp only [kindsB] at hc <;> try cases hc
              cases d <;> simp only [kindsB] at hd <;> try cases hd
              split at hc
              · split at hd
                · rename_i e1 _ _ e2 _
                  subst e1; subst e2
                  obtain ⟨rfl, _⟩ := rep_int hrv
                  obtain ⟨rfl, _⟩ := rep_int hru
                  simp only [eq1, if_true] at hy
                  cases hy
                  refine ⟨hc, hd, _, hud, rfl, ?_⟩
                  simp [Op.equalIn, run_underlying hud]
                  rfl
                · cases hd
              · cases hc
            · rename_i he; cases he
            · rename_i he; cases he
            · cases h3
          | bool =>
            split at h3
            · rename_i he; cases he
            · rename_i hud _
              cases c <;> simp only [kindsB] at hc <;> try cases hc
              cases d <;> simp only [kindsB] at hd <;> try cases hd
              have e1 := rep_bool hrv
              have e2 := rep_bool hru
              subst e1; subst e2
              simp only [eq1] at hy
              cases hy
              refine ⟨hc, hd, _, hud, rfl, ?_⟩
              simp [Op.equalIn, run_underlying hud]
            · rename_i he; cases he
            · cases h3
          | str =>
            split at h3
            · rename_i he; cases he
            · rename_i he; cases he
            · rename_i hud _
              cases c <;> simp only [kindsB] at hc <;> try cases hc
              cases d <;> simp only [kindsB] at hd <;> try cases hd
              obtain ⟨rfl, _⟩ := rep_str hrv
              obtain ⟨rfl, _⟩ := rep_str hru
              simp only [eq1] at hy
              cases hy
              refine ⟨hc, hd, _, hud, rfl, ?_⟩
              simp [Op.equalIn, run_underlying hud]
              first
                | rfl
                | (rw [beq_dec]; simp)
                | exact beq_bytes _ _
            · cases h3
        obtain ⟨hc', hd', dd, hud, hagg, hrun⟩ := key
        have ih := eq_loop n r (o + 1) ks cs ds z hf hc' hd' (fun j c hj => by
          have := hvs (j + 1) c (by simpa using hj)
          rw [show o + (j + 1) = o + 1 + j by omega] at this; exact this) (fun j c hj => by
          have := hus (j + 1) c (by simpa using hj)
          rw [show o + (j + 1) = o + 1 + j by omega] at this; exact this) hz
        rw [List.forIn_cons]
        simp only [hnm, if_false, Sem.run_bind, run_part hud hagg hv, run_part hud hagg hu, hrun, ok_then]
        cases y with
        | true =>
          simp only [Bool.true_eq_false, if_false, Sem.run_pure, ok_then, Bool.true_and]
          exact ih
        | false => simp
      · cases hf

theorem eqOk_of {t : TypeId} {ks : List EK} (h : eqTB P t ks = true) (x y : Operand) (op : BinOp) (φ : List Nat) (G : Nat → Nat) (cs ds : List D) (vs us : Array Value) (b : Bool)
    (hc : kindsB ks cs = true) (hd : kindsB ks ds = true) (hv : RepV X φ G w (.agg cs) (.agg vs)) (hu : RepV X φ G w (.agg ds) (.agg us)) (hb : eqL cs ds = some b) :
    (eqGuard op t x y (.agg vs) (.agg us)).run P w = .ok () w ∧ (Op.equal t (.agg vs) (.agg us)).run P w = .ok b w := by
  unfold eqTB at h
  split at h
  · rename_i fs hud
    split at h
    · rename_i h1 h2
      constructor
      · unfold eqGuard
        cases op <;> simp [h2]
      · show (Op.equalIn (9999 + 1) t (.agg vs) (.agg us)).run P w = .ok b w
        unfold Op.equalIn
        simp only [Sem.run_bind, run_underlying hud, ok_then]
        simp [h1]
        cases hv with
        | agg hl1 hr1 =>
          cases hu with
          | agg hl2 hr2 =>
            have := eq_loop (P := P) (X := X) (w := w) (φ := φ) (G := G) (vs := vs) (us := us) 9998 fs.toList 0 ks cs ds b h hc hd (fun j c hj => by
              have hj' := (List.getElem?_eq_some_iff.1 hj).1
              have hjs : j < vs.size := by omega
              refine ⟨vs[j], by simp [hjs], ?_⟩
              have := hr1 j c hj
              simpa [Array.getD, hjs] using this) (fun j c hj => by
              have hj' := (List.getElem?_eq_some_iff.1 hj).1
              have hjs : j < us.size := by omega
              refine ⟨us[j], by simp [hjs], ?_⟩
              have := hr2 j c hj
              simpa [Array.getD, hjs] using this) hb
            rw [← Array.forIn_toList]
            rw [this, ok_then]
            cases b <;> rfl
    · cases h
  · cases h
structure CxOk (P : Program) (X : Cfg) (cx : Cx) : Prop where
  tab : ∀ t e, look cx.tab t = some e → TEok P t e
  eqs : ∀ t ks, look cx.eqs t = some ks → eqTB P t ks = true

theorem any_beq {l : List Nat} {t : Nat} (h : l.any (Nat.beq t) = true) : t ∈ l := by
  obtain ⟨x, hx, he⟩ := List.any_eq_true.1 h
  rw [Nat.eq_of_beq_eq_true he]; exact hx

theorem desc_int {cx : Cx} (hcx : CxOk P X cx) {t : TypeId} {e : TE} (h : look cx.tab t = some e) : ∃ d, P.underlying t = some d ∧ descB P e.d d = true :=
  let ⟨d, hd, _, h2⟩ := (hcx.tab t e h).desc; ⟨d, hd, h2⟩

theorem equal_of {t : TypeId} {x y : Value} {b : Bool} (h : ∀ n, (Op.equalIn (n + 1) t x y).run P w = .ok b w) : (Op.equal t x y).run P w = .ok b w := h 9999

/-- '==' and '!=' of two values, off what 'equal' says. -/
def EqRun (P : Program) (w : World) (t : TypeId) (ox oy : Operand) (vx vy : Value) (b : Bool) : Prop :=
  ((do eqGuard .eql t ox oy vx vy; binOp .eql t vx vy) : Sem Value).run P w = .ok (.bool b) w ∧
    ((do eqGuard .neq t ox oy vx vy; binOp .neq t vx vy) : Sem Value).run P w = .ok (.bool (!b)) w

theorem eqRun_of {t : TypeId} {ox oy : Operand} {vx vy : Value} {b : Bool} (g1 : (eqGuard .eql t ox oy vx vy).run P w = .ok () w) (g2 : (eqGuard .neq t ox oy vx vy).run P w = .ok () w)
    (b1 : binOp .eql t vx vy = (do pure (.bool (← Op.equal t vx vy)) : Sem Value)) (b2 : binOp .neq t vx vy = (do pure (.bool (!(← Op.equal t vx vy))) : Sem Value))
    (he : (Op.equal t vx vy).run P w = .ok b w) : EqRun P w t ox oy vx vy b := by
  constructor
  · rw [b1]; simp [g1, he]
  · rw [b2]; simp [g2, he]

theorem eqNil_sound {t : TypeId} {td : TD} {lit : Bool} {x y : D} {b : Bool} (h : eqNil td lit x y = some b) {vx vy : Value} (hx : RepV X φ G w x vx) (hy : RepV X φ G w y vy)
    {d : TypeDesc} (hd : P.underlying t = some d) (hk : descB P td d = true) (ox oy : Operand) (hlit : lit = (isConstO ox || isConstO oy)) : EqRun P w t ox oy vx vy b := by
  unfold eqNil at h
  split at h
  · obtain ⟨e, rfl⟩ : ∃ e, d = .pointer e := by cases d <;> first | exact ⟨_, rfl⟩ | cases hk
    split at h
    · cases h; cases hx; cases hy
      exact eqRun_of rfl rfl rfl rfl (equal_of fun n => by simp [Op.equalIn, run_underlying hd])
    · cases h; obtain ⟨_, _, rfl⟩ := rep_ptr hx; cases hy
      exact eqRun_of rfl rfl rfl rfl (equal_of fun n => by simp [Op.equalIn, run_underlying hd])
    · cases h; obtain ⟨_, _, rfl⟩ := rep_ptr hy; cases hx
      exact eqRun_of rfl rfl rfl rfl (equal_of fun n => by simp [Op.equalIn, run_underlying hd])
    · cases h; obtain ⟨_, _, _, rfl, _⟩ := rep_box hx; cases hy
      exact eqRun_of rfl rfl rfl rfl (equal_of fun n => by simp [Op.equalIn, run_underlying hd])
    · cases h; obtain ⟨_, _, _, rfl, _⟩ := rep_box hy; cases hx
      exact eqRun_of rfl rfl rfl rfl (equal_of fun n => by simp [Op.equalIn, run_underlying hd])
    · cases h
  · obtain ⟨e, rfl⟩ : ∃ e, d = .slice e := by cases d <;> first | exact ⟨_, rfl⟩ | cases hk
    split at h
    · cases h; cases hx; cases hy
      exact eqRun_of rfl rfl rfl rfl (equal_of fun n => by simp [Op.equalIn, run_underlying hd])
    · cases h
      obtain ⟨a, cap, rfl⟩ := rep_slice_form hx
      rcases rep_slice_inv hx with ⟨_, _, _, _, h0⟩ | ⟨_, ⟨p, rfl⟩, _⟩ | ⟨b, off, vs, rfl, _⟩
      · exact absurd rfl h0
      · cases hy
        exact eqRun_of rfl rfl rfl rfl (equal_of fun n => by simp [Op.equalIn, run_underlying hd])
      · cases hy
        exact eqRun_of rfl rfl rfl rfl (equal_of fun n => by simp [Op.equalIn, run_underlying hd])
    · cases h
      obtain ⟨a, cap, rfl⟩ := rep_slice_form hx
      rcases rep_slice_inv hx with ⟨h0, _⟩ | ⟨h0, _⟩ | ⟨b, off, vs, rfl, _⟩
      · cases h0
      · cases h0
      · cases hy
        exact eqRun_of rfl rfl rfl rfl (equal_of fun n => by simp [Op.equalIn, run_underlying hd])
    · cases h
  · obtain ⟨p, r, v, rfl⟩ : ∃ p r v, d = .func p r v := by cases d <;> first | exact ⟨_, _, _, rfl⟩ | cases hk
    split at h
    · cases h; cases hx; cases hy
      exact eqRun_of rfl rfl rfl rfl (equal_of fun n => by simp [Op.equalIn, run_underlying hd])
    · cases h; cases hx; cases hy
      exact eqRun_of rfl rfl rfl rfl (equal_of fun n => by simp [Op.equalIn, run_underlying hd])
    · cases h
  · obtain ⟨ms, rfl⟩ : ∃ ms, d = .interface ms := by cases d <;> first | exact ⟨_, rfl⟩ | cases hk
    split at h
    · cases h
      cases hy
      have hc : isConstO ox = true ∨ isConstO oy = true := by
        have := hlit.symm; simpa using this
      cases hx with
      | errNil =>
        have hg : ∀ op, op = .eql ∨ op = .neq → (eqGuard op t ox oy .nilIface .nilIface).run P w = .ok () w := by
          intro op hop
          rcases hc with hc | hc
          · cases ox <;> first | (rcases hop with rfl | rfl <;> rfl) | cases hc
          · cases oy <;> first | (cases ox <;> rcases hop with rfl | rfl <;> rfl) | cases hc
        exact eqRun_of (hg _ (.inl rfl)) (hg _ (.inr rfl)) rfl rfl (equal_of fun n => by simp [Op.equalIn, run_underlying hd, Err.isNil])
      | errOther t v => exact eqRun_of rfl rfl rfl rfl (equal_of fun n => by simp [Op.equalIn, run_underlying hd, Err.isNil])
      | errFault => exact eqRun_of rfl rfl rfl rfl (equal_of fun n => by simp [Op.equalIn, run_underlying hd, Err.isNil])
      | errJoined => exact eqRun_of rfl rfl rfl rfl (equal_of fun n => by simp [Op.equalIn, run_underlying hd, Err.isNil])
    · cases h
  · cases h

theorem str_toList (a : List UInt8) : (⟨a.toArray⟩ : ByteArray).toList = a := by
  rw [ByteArray.toList_eq]

theorem eqD_sound {cx : Cx} (hcx : CxOk P X cx) {t : TypeId} {lit : Bool} {x y : D} {b : Bool} (h : eqD cx t lit x y = some b) {vx vy : Value} (hx : RepV X φ G w x vx) (hy : RepV X φ G w y vy)
    (ox oy : Operand) (hlit : lit = (isConstO ox || isConstO oy)) : EqRun P w t ox oy vx vy b := by
  unfold eqD at h
  split at h
  · split at h
    · rename_i e; subst e; cases h
      obtain ⟨rfl, _⟩ := rep_int hx; obtain ⟨rfl, _⟩ := rep_int hy
      constructor <;> simp [eqGuard, binOp, Op.intCmp, bne] <;> rfl
    · cases h
  · cases h
    obtain ⟨rfl, _⟩ := rep_str hx; obtain ⟨rfl, _⟩ := rep_str hy
    constructor <;> simp [eqGuard, binOp, Op.stringOp] <;> (rw [Bool.eq_iff_iff]; simp)
  · split at h
    · rename_i e he
      cases h
      obtain ⟨d, hd, hk⟩ := desc_int hcx he
      obtain rfl : d = .bool := by cases d <;> first | rfl | cases hk
      rw [rep_bool hx, rep_bool hy]
      exact eqRun_of rfl rfl rfl rfl (equal_of fun n => by simp [Op.equalIn, run_underlying hd])
    · cases h
  · split at h
    · rename_i ks hks
      split at h
      · rename_i hka hkb
        have he := hcx.eqs t ks hks
        cases hx with
        | agg h1 h2 =>
          cases hy with
          | agg h3 h4 =>
            obtain ⟨g1, g2⟩ := eqOk_of (X := X) (w := w) he ox oy .eql φ G _ _ _ _ b hka hkb (.agg h1 h2) (.agg h3 h4) h
            obtain ⟨g3, _⟩ := eqOk_of (X := X) (w := w) he ox oy .neq φ G _ _ _ _ b hka hkb (.agg h1 h2) (.agg h3 h4) h
            exact eqRun_of g1 g3 rfl rfl g2
      · cases h
    · cases h
  · split at h
    · rename_i e he
      obtain ⟨d, hd, hk⟩ := desc_int hcx he
      exact eqNil_sound h hx hy hd hk ox oy hlit
    · cases h

theorem less_or_eq : ∀ (a b : List UInt8), (Op.bytesLess a b || (a == b)) = !Op.bytesLess b a
  | [], [] => rfl
  | [], _ :: _ => rfl
  | _ :: _, [] => rfl
  | x :: a, y :: b => by
    have ih := less_or_eq a b
    simp only [Op.bytesLess]
    by_cases h : x = y
    · subst h
      have hx : decide (x < x) = false := by simp
      simp only [hx, Bool.false_or, beq_self_eq_true, Bool.true_and]
      rw [← ih]; congr 1; rw [Bool.eq_iff_iff]; simp
    · have h1 : (x == y) = false := by simp [h]
      have h2 : (y == x) = false := by simp [Ne.symm h]
      have h3 : (x :: a == y :: b) = false := by simp [h]
      rw [h1, h2, h3]
      simp only [Bool.false_and, Bool.or_false]
      rw [Bool.eq_iff_iff]; simp [UInt8.lt_iff_toNat_lt]
      have : x.toNat ≠ y.toNat := fun e => h (UInt8.toNat_inj.1 e)
      omega

theorem room_le {b n : Nat} (h : room b n = true) : n * b ≤ 140737488355328 := of_decide_eq_true h

/-- An operation of two. -/
theorem binK_sound {cx : Cx} (hcx : CxOk P X cx) {op : BinOp} {t : TypeId} {lit : Bool} {x y : D} {k : D → Option R} {r : R} (h : binK cx op t lit x y k = some r) {vx vy : Value}
    (hx : RepV X φ G w x vx) (hy : RepV X φ G w y vy) (ox oy : Operand) (hlit : lit = (isConstO ox || isConstO oy)) :
    ∃ d v, k d = some r ∧ d.free = true ∧ RepV X φ G w d v ∧ ((do eqGuard op t ox oy vx vy; binOp op t vx vy) : Sem Value).run P w = .ok v w := by
  cases op <;> simp only [binK] at h
  · split at h
    · split at h
      · rename_i e; subst e
        obtain ⟨rfl, h1⟩ := rep_int hx; obtain ⟨rfl, h2⟩ := rep_int hy
        exact ⟨_, _, h, rfl, .int (InR_wrap _ _), by simp [eqGuard, binOp, Op.intArith]⟩
      · cases h
    · rename_i a b
      split at h
      · rename_i hr
        obtain ⟨rfl, h1⟩ := rep_str hx; obtain ⟨rfl, h2⟩ := rep_str hy
        have := room_le hr
        have hsz : ((⟨a.toArray⟩ : ByteArray) ++ ⟨b.toArray⟩).size = a.length + b.length := by rw [ByteArray.size_append]; rfl
        refine ⟨_, .string (⟨a.toArray⟩ ++ ⟨b.toArray⟩), h, rfl, ?_, ?_⟩
        · have e : (a ++ b) = ((⟨a.toArray⟩ : ByteArray) ++ ⟨b.toArray⟩).data.toList := by simp [ByteArray.data_append]
          rw [e]
          exact .str _ (by omega)
        · have e : ¬ (((⟨a.toArray⟩ : ByteArray).size + (⟨b.toArray⟩ : ByteArray).size : Nat) : Int) > IntKind.i64.max := by
            have h1 : (⟨a.toArray⟩ : ByteArray).size = a.length := rfl
            have h2 : (⟨b.toArray⟩ : ByteArray).size = b.length := rfl
            rw [h1, h2]
            have h3 : IntKind.i64.max = 9223372036854775807 := by decide
            rw [h3]; omega
          simp only [binOp, Op.stringOp, if_neg e]
          rfl
      · cases h
    · cases h
  · split at h
    · split at h
      · rename_i e; subst e
        obtain ⟨rfl, h1⟩ := rep_int hx; obtain ⟨rfl, h2⟩ := rep_int hy
        exact ⟨_, _, h, rfl, .int (InR_wrap _ _), by simp [eqGuard, binOp, Op.intArith]⟩
      · cases h
    · cases h
  · split at h
    · split at h
      · rename_i e; subst e
        obtain ⟨rfl, h1⟩ := rep_int hx; obtain ⟨rfl, h2⟩ := rep_int hy
        exact ⟨_, _, h, rfl, .int (InR_wrap _ _), by simp [eqGuard, binOp, Op.intArith]⟩
      · cases h
    · cases h
  · split at h
    · split at h
      · rename_i e; subst e
        obtain ⟨rfl, h1⟩ := rep_int hx; obtain ⟨rfl, h2⟩ := rep_int hy
        split at h
        · cases h
        · rename_i hb
          have hb0 := of_decide_eq_false hb
          exact ⟨_, _, h, rfl, .int (InR_wrap _ _), by simp [eqGuard, binOp, Op.intDiv, hb0]⟩
      · cases h
    · cases h
  · split at h
    · split at h
      · rename_i e; subst e
        obtain ⟨rfl, h1⟩ := rep_int hx; obtain ⟨rfl, h2⟩ := rep_int hy
        split at h
        · cases h
        · rename_i hb
          have hb0 := of_decide_eq_false hb
          exact ⟨_, _, h, rfl, .int (InR_tmod h1), by simp [eqGuard, binOp, Op.intDiv, hb0]⟩
      · cases h
    · cases h
  · split at h
    · split at h
      · rename_i e; subst e
        obtain ⟨rfl, h1⟩ := rep_int hx; obtain ⟨rfl, h2⟩ := rep_int hy
        exact ⟨_, _, h, rfl, .int (by unfold bits; exact InR_wrap _ _), by simp [eqGuard, binOp, Op.intBits, bits]⟩
      · cases h
    · cases h
  · split at h
    · split at h
      · rename_i e; subst e
        obtain ⟨rfl, h1⟩ := rep_int hx; obtain ⟨rfl, h2⟩ := rep_int hy
        exact ⟨_, _, h, rfl, .int (by unfold bits; exact InR_wrap _ _), by simp [eqGuard, binOp, Op.intBits, bits]⟩
      · cases h
    · cases h
  · split at h
    · split at h
      · rename_i e; subst e
        obtain ⟨rfl, h1⟩ := rep_int hx; obtain ⟨rfl, h2⟩ := rep_int hy
        exact ⟨_, _, h, rfl, .int (by unfold bits; exact InR_wrap _ _), by simp [eqGuard, binOp, Op.intBits, bits]⟩
      · cases h
    · cases h
  · split at h
    · rename_i kx a ky b
      split at h
      · rename_i hb
        obtain ⟨rfl, h1⟩ := rep_int hx; obtain ⟨rfl, h2⟩ := rep_int hy
        have hb0 : ¬ b < 0 := by have := of_decide_eq_true hb; omega
        exact ⟨_, _, h, rfl, .int (InR_wrap _ _), by simp [eqGuard, binOp, Op.shift, hb0, shl]⟩
      · cases h
    · cases h
  · split at h
    · rename_i kx a ky b
      split at h
      · rename_i hb
        obtain ⟨rfl, h1⟩ := rep_int hx; obtain ⟨rfl, h2⟩ := rep_int hy
        have hb0 : ¬ b < 0 := by have := of_decide_eq_true hb; omega
        exact ⟨_, _, h, rfl, .int (InR_fdiv h1 _), by simp [eqGuard, binOp, Op.shift, hb0, shr]⟩
      · cases h
    · cases h
  · split at h
    · split at h
      · rename_i e; subst e
        obtain ⟨rfl, h1⟩ := rep_int hx; obtain ⟨rfl, h2⟩ := rep_int hy
        exact ⟨_, _, h, rfl, .int (by unfold bits; exact InR_wrap _ _), by simp [eqGuard, binOp, Op.intBits, bits]⟩
      · cases h
    · cases h
  · split at h
    · rename_i b hb; exact ⟨_, _, h, rfl, .bool _, (eqD_sound hcx hb hx hy ox oy hlit).1⟩
    · cases h
  · split at h
    · rename_i b hb; exact ⟨_, _, h, rfl, .bool _, (eqD_sound hcx hb hx hy ox oy hlit).2⟩
    · cases h
  · split at h
    · split at h
      · rename_i e; subst e
        obtain ⟨rfl, h1⟩ := rep_int hx; obtain ⟨rfl, h2⟩ := rep_int hy
        exact ⟨_, _, h, rfl, .bool _, by simp [eqGuard, binOp, Op.intCmp]⟩
      · cases h
    · obtain ⟨rfl, h1⟩ := rep_str hx; obtain ⟨rfl, h2⟩ := rep_str hy
      exact ⟨_, _, h, rfl, .bool _, by simp [eqGuard, binOp, Op.stringOp, ByteArray.toList_eq, less_or_eq]⟩
    · cases h
  · split at h
    · split at h
      · rename_i e; subst e
        obtain ⟨rfl, h1⟩ := rep_int hx; obtain ⟨rfl, h2⟩ := rep_int hy
        exact ⟨_, _, h, rfl, .bool _, by simp [eqGuard, binOp, Op.intCmp]⟩
      · cases h
    · obtain ⟨rfl, h1⟩ := rep_str hx; obtain ⟨rfl, h2⟩ := rep_str hy
      exact ⟨_, _, h, rfl, .bool _, by simp [eqGuard, binOp, Op.stringOp, ByteArray.toList_eq, less_or_eq]⟩
    · cases h
  · split at h
    · split at h
      · rename_i e; subst e
        obtain ⟨rfl, h1⟩ := rep_int hx; obtain ⟨rfl, h2⟩ := rep_int hy
        exact ⟨_, _, h, rfl, .bool _, by simp [eqGuard, binOp, Op.intCmp]⟩
      · cases h
    · obtain ⟨rfl, h1⟩ := rep_str hx; obtain ⟨rfl, h2⟩ := rep_str hy
      exact ⟨_, _, h, rfl, .bool _, by simp [eqGuard, binOp, Op.stringOp, ByteArray.toList_eq, less_or_eq]⟩
    · cases h
  · split at h
    · split at h
      · rename_i e; subst e
        obtain ⟨rfl, h1⟩ := rep_int hx; obtain ⟨rfl, h2⟩ := rep_int hy
        exact ⟨_, _, h, rfl, .bool _, by simp [eqGuard, binOp, Op.intCmp]⟩
      · cases h
    · obtain ⟨rfl, h1⟩ := rep_str hx; obtain ⟨rfl, h2⟩ := rep_str hy
      exact ⟨_, _, h, rfl, .bool _, by simp [eqGuard, binOp, Op.stringOp, ByteArray.toList_eq, less_or_eq]⟩
    · cases h

theorem unK_sound {op : UnOp} {x : D} {k : D → Option R} {r : R} (h : unK op x k = some r) {vx : Value} (hx : RepV X φ G w x vx) :
    ∃ d v, k d = some r ∧ d.free = true ∧ RepV X φ G w d v ∧ (Op.unary op vx).run P w = .ok v w := by
  unfold unK at h
  split at h
  · obtain ⟨rfl, h1⟩ := rep_int hx
    exact ⟨_, _, h, rfl, .int (InR_wrap _ _), rfl⟩
  · rw [rep_bool hx]
    exact ⟨_, _, h, rfl, .bool _, rfl⟩
  · obtain ⟨rfl, h1⟩ := rep_int hx
    exact ⟨_, _, h, rfl, .int (by unfold bits; exact InR_wrap _ _), rfl⟩
  · cases h

end
end Go.Ev

/-! Appends. -/
namespace Go.Ev
section
variable {P : Program} {X : Cfg} {R : Type} {φ : List Nat} {G : Nat → Nat} {w : World}

theorem cells_leaf : ∀ (t : Ty) (x : t.den) (j : Nat) c, (cells t x)[j]? = some c → c.leaf = true
  | .int _, _, j, c, h | .byte, _, j, c, h | .bool, _, j, c, h | .str, _, j, c, h | .err, _, j, c, h | .slice _, _, j, c, h => by
    cases j <;> simp [cells] at h; subst h; rfl
  | .unit, _, j, c, h => by simp [cells] at h
  | .ex, e, j, c, h => by
    have : c ∈ cells .ex e := List.mem_of_getElem? h
    simp [cells] at this
    rcases this with rfl | rfl | rfl | rfl | rfl | rfl | rfl | rfl | rfl | rfl <;> rfl
  | .pair a b, x, j, c, h => by
    have hm : c ∈ cells (.pair a b) x := List.mem_of_getElem? h
    simp only [cells, List.mem_append] at hm
    rcases hm with hm | hm
    · obtain ⟨i, hi⟩ := List.mem_iff_getElem?.1 hm; exact cells_leaf a x.1 i c hi
    · obtain ⟨i, hi⟩ := List.mem_iff_getElem?.1 hm; exact cells_leaf b x.2 i c hi

theorem idx_split {n sz j : Nat} (h : j < n * sz) : j / sz < n ∧ j % sz < sz ∧ j / sz * sz + j % sz = j := by
  have hsz : 0 < sz := by
    rcases Nat.eq_zero_or_pos sz with e | e
    · subst e; simp at h
    · exact e
  exact ⟨(Nat.div_lt_iff_lt_mul hsz).2 h, Nat.mod_lt _ hsz, by rw [Nat.mul_comm]; exact Nat.div_add_mod j sz⟩

/-- Row of cells: what an append or a copy lays down. -/
structure RowOk (X : Cfg) (φ : List Nat) (G : Nat → Nat) (w : World) (t : Ty) (l : List t.den) (news : List Value) : Prop where
  len : news.length = l.length * t.size
  rep : ∀ (i : Nat) x, l[i]? = some x → ∀ (j : Nat) c, (cells t x)[j]? = some c → ∃ u, news[i * t.size + j]? = some u ∧ RepV X φ G w c u

theorem RowOk.one {t : Ty} {l : List t.den} {news : List Value} (h : RowOk X φ G w t l news) : ∀ u ∈ news, u.oneCell' = true := by
  intro u hu
  obtain ⟨j, hj⟩ := List.mem_iff_getElem?.1 hu
  have hjl := (List.getElem?_eq_some_iff.1 hj).1
  rw [h.len] at hjl
  obtain ⟨h1, h2, h3⟩ := idx_split hjl
  have hcl : j % t.size < (cells t l[j / t.size]).length := by rw [cells_length]; exact h2
  obtain ⟨u', hu', hr⟩ := h.rep (j / t.size) _ (List.getElem?_eq_getElem h1) (j % t.size) _ (List.getElem?_eq_getElem hcl)
  rw [h3, hj] at hu'; cases hu'
  exact rep_one hr (cells_leaf t _ _ _ (List.getElem?_eq_getElem hcl))

theorem range_get {α : Type} (f : Nat → α) {n j : Nat} (h : j < n) : ((List.range n).map f)[j]? = some (f j) := by simp [h]

theorem row_of_sl {m : Md} {t : Ty} {l : List t.den} {a : Option Addr} {len cap : Nat} (h : RepV X φ G w (.sl m t l) (.slice a len cap)) :
    len = l.length ∧ ∃ news, RowOk X φ G w t l news ∧ ∀ w', w'.heap = w.heap → (Builtin.firstCells t.size len (.slice a len cap)).run P w' = .ok news.toArray w' := by
  rcases rep_slice_inv h with ⟨rfl, rfl, rfl, rfl, _⟩ | ⟨rfl, ⟨p, rfl⟩, rfl, _⟩ | ⟨b, off, vs, rfl, rfl, hlen, _, hmax, hp, hc, hr⟩
  · exact ⟨rfl, [], ⟨by simp, fun i x hx => by simp at hx⟩, fun w' _ => rfl⟩
  · refine ⟨rfl, [], ⟨by simp, fun i x hx => by simp at hx⟩, fun w' _ => ?_⟩
    have := run_firstCells_some (P := P) w' t.size 0 p 0 cap [] (by simp) (fun j v hv => by simp at hv)
    simpa using this
  · refine ⟨rfl, (List.range (l.length * t.size)).map vs, ⟨by simp, fun i x hx j c hc' => ?_⟩, fun w' hw' => ?_⟩
    · have hi := (List.getElem?_eq_some_iff.1 hx).1
      have hj : j < t.size := by rw [← cells_length t x]; exact (List.getElem?_eq_some_iff.1 hc').1
      exact ⟨_, range_get vs (cell_idx hi hj), hr i x hx j c hc'⟩
    · refine run_firstCells_some (P := P) w' t.size l.length ⟨b, off, none⟩ l.length cap _ (by simp) (fun j v hv => ?_)
      have hj : j < l.length * t.size := by have := (List.getElem?_eq_some_iff.1 hv).1; simpa using this
      rw [range_get vs hj] at hv
      have e : w'.cell? ⟨b, off + j, none⟩ = w.cell? ⟨b, off + j, none⟩ := by simp only [World.cell?, hw']
      rw [Addr.add_mid, e, hc j hj]; exact hv

theorem tail_sound {t : Ty} {y : D} {l : List t.den} (h : tailOf t y = some l) {vy : Value} (hy : RepV X φ G w y vy) :
    ∃ news, RowOk X φ G w t l news ∧ (∀ w', (Builtin.lenOf vy).run P w' = .ok l.length w') ∧
      ∀ w', w'.heap = w.heap → (Builtin.firstCells t.size l.length vy).run P w' = .ok news.toArray w' := by
  unfold tailOf at h
  split at h
  · obtain ⟨e, rfl⟩ := castL_some h
    subst e
    obtain ⟨a, cap, rfl⟩ := rep_slice_form hy
    obtain ⟨_, news, h1, h2⟩ := row_of_sl (P := P) hy
    exact ⟨news, h1, fun w' => rfl, h2⟩
  · cases h; cases hy
    exact ⟨[], ⟨by simp, fun i x hx => by simp at hx⟩, fun _ => rfl, fun _ _ => rfl⟩
  · obtain ⟨e, rfl⟩ := castL_some h
    subst e
    rename_i s
    obtain ⟨rfl, hs⟩ := rep_str hy
    refine ⟨s.map fun b => .int .u8 (b.toNat : Int), ⟨by simp [Ty.size], fun i x hx j c hc => ?_⟩, fun _ => rfl, fun w' _ => ?_⟩
    · cases j with
      | zero =>
        simp [cells] at hc
        subst hc
        refine ⟨.int .u8 (x.toNat : Int), by simp [Ty.size, hx], .int ?_⟩
        have := x.toNat_lt
        simp only [InR, lo, hi]; omega
      | succ j => simp [cells] at hc
    · have e : (⟨s.toArray⟩ : ByteArray).extract 0 s.length = ⟨s.toArray⟩ := by
        have : s.length = (⟨s.toArray⟩ : ByteArray).size := rfl
        rw [this, ByteArray.extract_zero_size]
      show (pure (((⟨s.toArray⟩ : ByteArray).extract 0 s.length).data.map fun b => Value.int .u8 b.toNat) : Sem (Array Value)).run P w' = _
      rw [e]
      simp
  · cases h

theorem run_append_room {t t2 ty e : TypeId} {i : TypeInfo} (ht : P.underlying t = some (.slice e)) {d2 : TypeDesc} (ht2 : P.underlying t2 = some d2) (hd2 : (∃ e2, d2 = .slice e2) ∨ d2 = .string) (hi : P.info? e = some i)
    {b off sLen sCap m : Nat} {x : Value} {news : List Value} (hx : (Builtin.lenOf x).run P w = .ok m w) (hf : (Builtin.firstCells i.size m x).run P w = .ok news.toArray w) (hl : news.length = m * i.size) (h1 : ∀ u ∈ news, u.oneCell' = true)
    (hroom : sLen + m ≤ sCap) (hc : ∀ j, j < news.length → (w.cell? ⟨b, off + sLen * i.size + j, none⟩).isSome = true) (hz : ∀ j, j < news.length → w.frozen? ⟨b, off + sLen * i.size + j, none⟩ = false) :
    (Builtin.append_ #[t, t2] ty #[.slice (some ⟨b, off, none⟩) sLen sCap, x]).run P w = .ok (.slice (some ⟨b, off, none⟩) (sLen + m) sCap) (w.setCells b (off + sLen * i.size) news) := by
  have hst := run_storeCells_cells (P := P) b (off + sLen * i.size) news 0 w (by simpa using hc) (by simpa using hz) h1
  simp only [Nat.add_zero] at hst
  rcases hd2 with ⟨e2, rfl⟩ | rfl <;> simp [Builtin.append_, run_underlying ht, run_underlying ht2, sizeOf, typeInfo, hi, hx, hroom, hf, Addr.add_lit, hst]

theorem run_append_more {t t2 ty e : TypeId} {i : TypeInfo} {z : Value} (ht : P.underlying t = some (.slice e)) {d2 : TypeDesc} (ht2 : P.underlying t2 = some d2) (hd2 : (∃ e2, d2 = .slice e2) ∨ d2 = .string) (hi : P.info? e = some i) (hz : i.zero = some z)
    {base : Option Addr} {sLen sCap m : Nat} {x : Value} {olds news : List Value} (hx : (Builtin.lenOf x).run P w = .ok m w) (hf : (Builtin.firstCells i.size m x).run P w.drew = .ok news.toArray w.drew)
    (hfo : (Builtin.firstCells i.size sLen (.slice base sLen sCap)).run P w.drew = .ok olds.toArray w.drew)
    (hg : sCap < sLen + m) (h63 : ((sLen + m : Nat) : Int) ≤ 9223372036854775807) (hfit : Builtin.nextslicecap (sLen + m) sCap * i.bytes ≤ 281474976710656) :
    (Builtin.append_ #[t, t2] ty #[.slice base sLen sCap, x]).run P w = .ok (.slice (some ⟨w.heap.size, 0, none⟩) (sLen + m) (grownCap w (sLen + m) sCap e))
      (w.drew.alloc (.cells (olds.toArray ++ news.toArray ++ Builtin.zeroCells z.cells (grownCap w (sLen + m) sCap e - (sLen + m))) e)) := by
  have hn : ¬ (sLen + m ≤ sCap) := by omega
  have h63' : ¬ (9223372036854775807 < ((sLen : Int) + (m : Int))) := by omega
  have h48' : ¬ (281474976710656 < Builtin.nextslicecap (sLen + m) sCap * i.bytes) := by omega
  rcases hd2 with ⟨e2, rfl⟩ | rfl
  all_goals
    simp [Builtin.append_, run_underlying ht, run_underlying ht2, sizeOf, typeInfo, zeroValue, hi, hz, hx, hn, h63', h48', Question.forced, hf, hfo, newRow, grownCap]
    congr 2
    apply Array.ext'
    simp [List.append_assoc]

end
end Go.Ev

/-! Appends: the operation. -/
namespace Go.Ev
section
variable {P : Program} {X : Cfg} {R : Type} {φ : List Nat} {G : Nat → Nat} {w : World}

theorem RowOk.append {t : Ty} {l l2 : List t.den} {o n : List Value} (h1 : RowOk X φ G w t l o) (h2 : RowOk X φ G w t l2 n) : RowOk X φ G w t (l ++ l2) (o ++ n) := by
  refine ⟨by simp [h1.len, h2.len, Nat.add_mul], fun i x hx j c hc => ?_⟩
  have hj : j < t.size := by rw [← cells_length t x]; exact (List.getElem?_eq_some_iff.1 hc).1
  by_cases hi : i < l.length
  · rw [List.getElem?_append_left hi] at hx
    obtain ⟨u, hu, hr⟩ := h1.rep i x hx j c hc
    exact ⟨u, by rw [List.getElem?_append_left (List.getElem?_eq_some_iff.1 hu).1]; exact hu, hr⟩
  · rw [List.getElem?_append_right (by omega)] at hx
    obtain ⟨u, hu, hr⟩ := h2.rep _ x hx j c hc
    have hm : l.length * t.size ≤ i * t.size := Nat.mul_le_mul_right _ (by omega)
    refine ⟨u, ?_, hr⟩
    rw [List.getElem?_append_right (by rw [h1.len]; omega), h1.len]
    rw [Nat.sub_mul] at hu
    rw [show i * t.size + j - l.length * t.size = i * t.size - l.length * t.size + j by omega]
    exact hu

theorem RowOk.mono {t : Ty} {l : List t.den} {n : List Value} (h : RowOk X φ G w t l n) {w' : World} (hw : ∀ b o, o < G b → w'.cell? ⟨b, o, none⟩ = w.cell? ⟨b, o, none⟩) : RowOk X φ G w' t l n :=
  ⟨h.len, fun i x hx j c hc => let ⟨u, hu, hr⟩ := h.rep i x hx j c hc; ⟨u, hu, hr.mono (fun _ _ h => h) (fun _ => Nat.le_refl _) hw⟩⟩

/-- A value that is no slice over memory comes to hand. -/
theorem Sim.pushN {g env vals sto} (h : Sim X g w env vals sto) (d : D) (v : Value) (hr : RepV X g.φ g.G w d v) (hl : d.leaf = true) (hv : ∀ a len cap, v ≠ .slice (some a) len cap) :
    Sim X g w (env ++ [d]) (vals ++ [v]) sto := by
  have h1 := h.push .any v (.any v) rfl
  refine h1.re_id (by simp [h.len]) ?_ ?_
  · intro t d' v' hd hv'
    rcases getElem?_snoc hd with ⟨hl, hd⟩ | ⟨rfl, rfl⟩
    · rw [List.getElem?_append_left (h.len ▸ hl)] at hv'; exact h.rep t d' v' hd hv'
    · rw [h.len] at hv'; simp at hv'; subst hv'; exact hr
  · intro ℓ md ty l a len cap ho hmd
    cases ℓ with
    | env t j =>
      by_cases ht : t < env.length
      · exact ho.shift (by rw [List.getElem?_append_left ht, List.getElem?_append_left ht]) rfl
      · have he : t = env.length := by have := ho.lt; simp at this; omega
        subst he
        exfalso
        generalize hℓ : Loc.env env.length j = ℓ at ho
        generalize hx : D.sl md ty l = x at ho
        generalize hy : Value.slice (some a) len cap = y at ho
        cases ho with
        | leaf hd hv' => cases hℓ; rw [h.len] at hv'; simp at hv'; subst hv'; exact hv _ _ _ hy.symm
        | agg hd hv' hj' he => cases hℓ; simp at hd; subst hd; cases hl
        | tup hd hv' hj' he => cases hℓ; simp at hd; subst hd; cases hl
        | cell => cases hℓ
    | obj i => exact ho.not_obj.elim
    | cell i j => exact ho.of_slot (fun _ _ h => by cases h)

/-- Where an append grows. -/
theorem append_more {g env vals sto} (hs : Sim X g w env vals sto) {st t2 ty e : TypeId} {te : TE} {et : Ty} (hst : P.underlying st = some (.slice e)) {d2 : TypeDesc} (ht2 : P.underlying t2 = some d2)
    (hd2 : (∃ e2, d2 = .slice e2) ∨ d2 = .string) (hte : TEok P e te) (hty : te.ty = some et) {l l' : List et.den} {base : Option Addr} {cap : Nat} {vy : Value} {olds news : List Value}
    (ho : RowOk X g.φ g.G w et l olds) (hn : RowOk X g.φ g.G w et l' news)
    (hfo : ∀ w', w'.heap = w.heap → (Builtin.firstCells et.size l.length (.slice base l.length cap)).run P w' = .ok olds.toArray w')
    (hlen : ∀ w', (Builtin.lenOf vy).run P w' = .ok l'.length w')
    (hf : ∀ w', w'.heap = w.heap → (Builtin.firstCells et.size l'.length vy).run P w' = .ok news.toArray w')
    (hg : cap < l.length + l'.length) (hroom : room te.bytes (l.length + l'.length) = true) :
    ∃ v w' g', (Builtin.append_ #[st, t2] ty #[.slice base l.length cap, vy]).run P w = .ok v w' ∧ Sim X g' w' (env ++ [.sl .own et (l ++ l')]) (vals ++ [v]) sto ∧ Ext g w g' w' := by
  obtain ⟨i, z, hi, hsz, hby, hz, hzl⟩ := hte.info
  obtain ⟨hts, hta, h1s, h1b⟩ := hte.ty et hty
  have hr := room_le hroom
  have hise : i.size = et.size := hsz.trans hts.symm
  have hle : l.length + l'.length ≤ 140737488355328 := Nat.le_trans (Nat.le_mul_of_pos_right _ h1b) hr
  have hfit := growslice_fits hg hr
  rw [← hby] at hfit
  have hrun := run_append_more (P := P) (w := w) (ty := ty) (base := base) (sCap := cap) (sLen := l.length) (m := l'.length) (x := vy) (olds := olds) (news := news) hst ht2 hd2 hi hz (hlen w)
    (by rw [hise]; exact hf w.drew rfl) (by rw [hise]; exact hfo w.drew rfl) hg (by omega) hfit
  have hrow := (ho.append hn)
  have hzs : z.cells.size = et.size := by
    have := (zeroL_spec hzl).1
    rw [hte.zlen] at this; rw [← Array.length_toList, this, hts]
  have hge := grownCap_ge w (l.length + l'.length) cap e
  have hcm : grownCap w (l.length + l'.length) cap e ≤ maxLen := grownCap_le_maxLen w _ cap e (by unfold maxLen; omega)
  have hlo := ho.len
  have hln := hn.len
  obtain ⟨g', h2, e2⟩ := (hs.alike (Alike.drew w)).newOwn (t := et) (l := l ++ l') (olds.toArray ++ news.toArray ++ Builtin.zeroCells z.cells (grownCap w (l.length + l'.length) cap e - (l.length + l'.length))) e (0, 0)
    (grownCap w (l.length + l'.length) cap e) (fun j => (olds ++ news).getD j undef)
    (fun j hj => by
      rw [← hrow.len] at hj
      have hj2 : j < (olds.toArray ++ news.toArray).size := by simpa using hj
      rw [Array.getElem?_append_left hj2]
      simp only [List.append_toArray, List.getElem?_toArray]
      rw [List.getElem?_eq_getElem hj]; simp only [List.getD, List.getElem?_eq_getElem hj]; rfl)
    (fun ii x hx j c hc => by
      obtain ⟨u, hu, hr⟩ := hrow.rep ii x hx j c hc
      have : (olds ++ news).getD (ii * et.size + j) undef = u := by simp only [List.getD, hu]; rfl
      rw [this]; exact RepV.mono (w := w) (w' := w.drew) (fun _ _ h => h) (fun _ => Nat.le_refl _) (fun _ _ _ => rfl) hr)
    (by rw [List.length_append]; exact hge) (by unfold maxLen at hcm; exact hcm)
    (by
      simp only [Array.size_append, List.size_toArray, size_zeroCells, hzs, hlo, hln, ← Nat.add_mul]
      exact Nat.mul_le_mul_right _ (by omega))
    (.inl (Nat.le_refl _))
  rw [List.length_append] at h2
  exact ⟨_, _, g', hrun, h2, (Ext.alike g (Alike.drew w)).trans e2⟩

/-- What the three ways of an append are to show. -/
def ApOk (P : Program) (X : Cfg) (w : World) (g : Gh) (env : List D) (vals : List Value) (sto : Sto) (st t2 ty : TypeId) (vx vy : Value) (d : D) : Prop :=
  ∃ v w' g', (Builtin.append_ #[st, t2] ty #[vx, vy]).run P w = .ok v w' ∧ Sim X g' w' (env ++ [d]) (vals ++ [v]) sto ∧ Ext g w g' w'

theorem ap_none {g env vals sto} (hs : Sim X g w env vals sto) {st t2 ty e : TypeId} {te : TE} {et : Ty} (hst : P.underlying st = some (.slice e)) {d2 : TypeDesc} (ht2 : P.underlying t2 = some d2)
    (hd2 : (∃ e2, d2 = .slice e2) ∨ d2 = .string) (hte : TEok P e te) (hty : te.ty = some et) {l' : List et.den} {vy : Value} {news : List Value}
    (hn : RowOk X g.φ g.G w et l' news)
    (hlen : ∀ w', (Builtin.lenOf vy).run P w' = .ok l'.length w')
    (hf : ∀ w', w'.heap = w.heap → (Builtin.firstCells et.size l'.length vy).run P w' = .ok news.toArray w')
    (hroom : room te.bytes l'.length = true) : ApOk P X w g env vals sto st t2 ty (.slice none 0 0) vy (.sl .own et l') := by
  by_cases e0 : l' = []
  · subst e0
    obtain ⟨i, zv, hi, hisz, hiby, hz, hzl⟩ := hte.info
    obtain ⟨hts, _⟩ := hte.ty et hty
    refine ⟨.slice none 0 0, w, g, ?_, hs.pushN _ _ (.slNil (by decide)) rfl (by intro a len cap h; cases h), .refl _ _⟩
    have hf0 := hf w rfl
    rw [← hts] at hisz
    have hl0 := hlen w
    simp only [List.length_nil] at hf0 hl0
    rcases hd2 with ⟨e2, rfl⟩ | rfl <;> simp [Builtin.append_, run_underlying hst, run_underlying ht2, sizeOf, typeInfo, hi, hl0, hisz, hf0]
  · obtain ⟨v, w', g', h1, h2, h3⟩ := append_more (P := P) (ty := ty) hs hst ht2 hd2 hte hty (l := []) (l' := l') (base := none) (cap := 0) (vy := vy) (olds := []) (news := news)
      ⟨by simp, fun i x hx => by simp at hx⟩ hn (fun w' _ => rfl) hlen hf (by have := List.length_pos_iff.2 e0; simpa using this) (by simpa using hroom)
    exact ⟨v, w', g', h1, h2, h3⟩

theorem ap_in {g env vals sto} {st t2 ty e : TypeId} {te : TE} {et : Ty} {l l' : List et.den} {md : Md} {b off cap : Nat} {vy : Value} (hs : Sim X g w (env ++ [.sl md et l]) (vals ++ [.slice (some ⟨b, off, none⟩) l.length cap]) sto) (hmd : md.keeps l.length cap)
    (hst : P.underlying st = some (.slice e)) {d2 : TypeDesc} (ht2 : P.underlying t2 = some d2)
    (hd2 : (∃ e2, d2 = .slice e2) ∨ d2 = .string) (hte : TEok P e te) (hty : te.ty = some et) {news : List Value}
    (hn : RowOk X g.φ g.G w et l' news)
    (hlen : ∀ w', (Builtin.lenOf vy).run P w' = .ok l'.length w')
    (hf : ∀ w', w'.heap = w.heap → (Builtin.firstCells et.size l'.length vy).run P w' = .ok news.toArray w')
    (hg : ¬ cap < l.length + l'.length) : ApOk P X w g env vals sto st t2 ty (.slice (some ⟨b, off, none⟩) l.length cap) vy (.sl .own et (l ++ l')) := by
  have hl : env.length = vals.length := by have := hs.len; simpa using this
  obtain ⟨g', h2, e2⟩ := hs.appendIn hmd (l2 := l') (ys := news) hn.len (by omega) hn.rep
  refine ⟨_, _, g', ?_, h2, e2⟩
  obtain ⟨kk, gg, sp⟩ := hs.own (.env env.length 0) md _ l ⟨b, off, none⟩ l.length cap (.leaf (by simp) (by rw [hl]; simp)) hmd
  obtain ⟨i, zv, hi, hisz, hiby, hz, hzl⟩ := hte.info
  obtain ⟨hts, _⟩ := hte.ty et hty
  have hisz2 : i.size = et.size := hisz.trans hts.symm
  have hcapm : (l.length + l'.length) * et.size ≤ cap * et.size := Nat.mul_le_mul_right _ (Nat.le_of_not_lt hg)
  have hnl := hn.len
  rw [Nat.add_mul] at hcapm
  have hrr := run_append_room (P := P) (w := w) (ty := ty) (b := b) (off := off) (sLen := l.length) (sCap := cap) (m := l'.length) (x := vy) (news := news) hst ht2 hd2 hi (hlen w)
    (by rw [hisz2]; exact hf w rfl) (by rw [hisz2]; exact hnl) hn.one (by omega)
    (fun j hj => by
      rw [hisz2]
      obtain ⟨⟨u, hu⟩, _⟩ := sp (l.length * et.size + j) (by omega) (by omega)
      rw [Nat.add_assoc]; simp only at hu; rw [hu]; rfl)
    (fun j hj => by
      rw [hisz2]
      obtain ⟨_, hz⟩ := sp (l.length * et.size + j) (by omega) (by omega)
      rw [Nat.add_assoc]; exact hz)
  rw [hisz2] at hrr
  exact hrr


theorem ap_own {g env vals sto} {st t2 ty e : TypeId} {te : TE} {et : Ty} {l l' : List et.den} {vx vy : Value} (hs : Sim X g w (env ++ [.sl .own et l]) (vals ++ [vx]) sto)
    (hst : P.underlying st = some (.slice e)) {d2 : TypeDesc} (ht2 : P.underlying t2 = some d2)
    (hd2 : (∃ e2, d2 = .slice e2) ∨ d2 = .string) (hte : TEok P e te) (hty : te.ty = some et) {news : List Value}
    (hn : RowOk X g.φ g.G w et l' news)
    (hlen : ∀ w', (Builtin.lenOf vy).run P w' = .ok l'.length w')
    (hf : ∀ w', w'.heap = w.heap → (Builtin.firstCells et.size l'.length vy).run P w' = .ok news.toArray w')
    (hroom : room te.bytes (l.length + l'.length) = true) : ApOk P X w g env vals sto st t2 ty vx vy (.sl .own et (l ++ l')) := by
  have hl : env.length = vals.length := by have := hs.len; simpa using this
  have hx := hs.rep env.length (.sl .own et l) vx (by simp) (by rw [hl]; simp)
  obtain ⟨a, cap, rfl⟩ := rep_slice_form hx
  obtain ⟨_, olds, ho, hfo⟩ := row_of_sl (P := P) hx
  by_cases hg : cap < l.length + l'.length
  · obtain ⟨v, w', g', h1, h2, h3⟩ := append_more (P := P) (ty := ty) hs.drop hst ht2 hd2 hte hty ho hn hfo hlen hf hg hroom
    exact ⟨v, w', g', h1, h2, h3⟩
  · rcases rep_slice_inv hx with ⟨e0, e1, _, e2, _⟩ | ⟨_, _, _, hm, _⟩ | ⟨b, off, vs, e1, _, hlc, _⟩
    · subst e0; subst e1; subst e2
      have := ap_none (P := P) (ty := ty) hs.drop hst ht2 hd2 hte hty hn hlen hf (by simpa using hroom)
      simpa using this
    · exact absurd rfl hm
    · subst e1
      exact ap_in hs (.inl rfl) hst ht2 hd2 hte hty hn hlen hf hg

theorem ap_same {g env vals sto} {st t2 ty e : TypeId} {te : TE} {et : Ty} {m : Md} {l : List et.den} {vx vy : Value} (hs : Sim X g w (env ++ [.sl m et l]) (vals ++ [vx]) sto)
    (hst : P.underlying st = some (.slice e)) {d2 : TypeDesc} (ht2 : P.underlying t2 = some d2)
    (hd2 : (∃ e2, d2 = .slice e2) ∨ d2 = .string) (hte : TEok P e te) (hty : te.ty = some et) {news : List Value}
    (hn : RowOk X g.φ g.G w et ([] : List et.den) news)
    (hlen : ∀ w', (Builtin.lenOf vy).run P w' = .ok ([] : List et.den).length w')
    (hf : ∀ w', w'.heap = w.heap → (Builtin.firstCells et.size ([] : List et.den).length vy).run P w' = .ok news.toArray w') : ApOk P X w g env vals sto st t2 ty vx vy (.sl m et l) := by
  have hl : env.length = vals.length := by have := hs.len; simpa using this
  have hx := hs.rep env.length (.sl m et l) vx (by simp) (by rw [hl]; simp)
  obtain ⟨a, cap, rfl⟩ := rep_slice_form hx
  obtain ⟨i, zv, hi, hisz, hiby, hz, hzl⟩ := hte.info
  obtain ⟨hts, _⟩ := hte.ty et hty
  refine ⟨_, w, g, ?_, hs, .refl _ _⟩
  have hf0 := hf w rfl
  rw [← hts] at hisz
  have hl0 := hlen w
  simp only [List.length_nil] at hf0 hl0
  have hlc : l.length ≤ cap := by
    rcases rep_slice_inv hx with ⟨e0, _, _, e2, _⟩ | ⟨e0, _⟩ | ⟨_, _, _, _, _, hlc, _⟩
    · subst e0; simp
    · subst e0; simp
    · exact hlc
  have hnews : news = [] := List.length_eq_zero_iff.1 (by simpa using hn.len)
  subst hnews
  have hnc : ¬ cap < l.length := Nat.not_lt.2 hlc
  cases a with
  | none => rcases hd2 with ⟨e2, rfl⟩ | rfl <;> simp [Builtin.append_, run_underlying hst, run_underlying ht2, sizeOf, typeInfo, hi, hl0, hisz, hf0, hnc]
  | some p => rcases hd2 with ⟨e2, rfl⟩ | rfl <;> simp [Builtin.append_, run_underlying hst, run_underlying ht2, sizeOf, typeInfo, hi, hl0, hisz, hf0, hlc, storeCells]

theorem ApOk.oc {g env vals sto} {st t2 ty : TypeId} {et : Ty} {l : List et.den} {vx vy : Value} (h : ApOk P X w g env vals sto st t2 ty vx vy (.sl .own et l)) : ApOk P X w g env vals sto st t2 ty vx vy (.sl .oc et l) := by
  obtain ⟨v, w', g', h1, h2, h3⟩ := h
  exact ⟨v, w', g', h1, h2.ownOc, h3⟩

theorem ap_oc {g env vals sto} {st t2 ty e : TypeId} {te : TE} {et : Ty} {l l' : List et.den} {vx vy : Value} (hs : Sim X g w (env ++ [.sl .oc et l]) (vals ++ [vx]) sto)
    (hst : P.underlying st = some (.slice e)) {d2 : TypeDesc} (ht2 : P.underlying t2 = some d2)
    (hd2 : (∃ e2, d2 = .slice e2) ∨ d2 = .string) (hte : TEok P e te) (hty : te.ty = some et) {news : List Value}
    (hn : RowOk X g.φ g.G w et l' news)
    (hlen : ∀ w', (Builtin.lenOf vy).run P w' = .ok l'.length w')
    (hf : ∀ w', w'.heap = w.heap → (Builtin.firstCells et.size l'.length vy).run P w' = .ok news.toArray w')
    (hroom : room te.bytes (l.length + l'.length) = true) : ApOk P X w g env vals sto st t2 ty vx vy (.sl .oc et (l ++ l')) := by
  have hl : env.length = vals.length := by have := hs.len; simpa using this
  have hx := hs.rep env.length (.sl .oc et l) vx (by simp) (by rw [hl]; simp)
  obtain ⟨a, cap, rfl⟩ := rep_slice_form hx
  obtain ⟨_, olds, ho, hfo⟩ := row_of_sl (P := P) hx
  by_cases hg : cap < l.length + l'.length
  · obtain ⟨v, w', g', h1, h2, h3⟩ := append_more (P := P) (ty := ty) hs.drop hst ht2 hd2 hte hty ho hn hfo hlen hf hg hroom
    exact ApOk.oc ⟨v, w', g', h1, h2, h3⟩
  · by_cases e0 : l' = []
    · subst e0
      rw [List.append_nil]
      exact ap_same hs hst ht2 hd2 hte hty hn hlen hf
    · have hpos : 0 < l'.length := List.length_pos_iff.2 e0
      rcases rep_slice_inv hx with ⟨e0, e1, _, e2, _⟩ | ⟨e0, _, _, _, e2, _⟩ | ⟨b, off, vs, e1, _, hlc, _⟩
      · subst e2; omega
      · have := e2 (.inr rfl); omega
      · subst e1
        exact ApOk.oc (ap_in hs (.inr ⟨rfl, by omega⟩) hst ht2 hd2 hte hty hn hlen hf hg)

theorem appendK_soundT {cx : Cx} (hcx : CxOk P X cx) {st t2 ty : TypeId} {x y : D} {k : D → Option R} {r : R} (h : appendK cx st x y k = some r) {g env vals sto} {vx vy : Value}
    (hs : Sim X g w (env ++ [x]) (vals ++ [vx]) sto)
    (hy : ∀ {t : Ty} {l : List t.den}, tailOf t y = some l → ∃ news, RowOk X g.φ g.G w t l news ∧ (∀ w', (Builtin.lenOf vy).run P w' = .ok l.length w') ∧ ∀ w', w'.heap = w.heap → (Builtin.firstCells t.size l.length vy).run P w' = .ok news.toArray w')
    {d2 : TypeDesc} (ht2 : P.underlying t2 = some d2) (hd2 : (∃ e2, d2 = .slice e2) ∨ d2 = .string) :
    ∃ d, k d = some r ∧ ApOk P X w g env vals sto st t2 ty vx vy d := by
  unfold appendK at h
  split at h
  · rename_i e sz1 by1 ag1 ty1 z1 hst0
    obtain ⟨ds, hds, hk⟩ := desc_int hcx hst0
    obtain rfl : ds = .slice e := by
      cases ds <;> first | (have := Nat.eq_of_beq_eq_true hk; subst this; rfl) | cases hk
    split at h
    · rename_i d0 sz by_ ag et z he0
      have hte := hcx.tab _ _ he0
      split at h
      · rename_i l' htail
        obtain ⟨news, hn, hlen, hf⟩ := hy htail
        split at h
        · split at h
          · rename_i hroom
            have hl : env.length = vals.length := by have := hs.len; simpa using this
            have hx := hs.rep env.length .nils vx (by simp) (by rw [hl]; simp)
            obtain rfl : vx = .slice none 0 0 := by cases hx; rfl
            exact ⟨_, h, ap_none hs.drop hds ht2 hd2 hte rfl hn hlen hf hroom⟩
          · cases h
        · split at h
          · rename_i t l0 _ l hcast
            obtain ⟨e, hcast⟩ := castL_some hcast
            subst e
            subst hcast
            split at h
            · rename_i hroom
              exact ⟨_, h, ap_own hs hds ht2 hd2 hte rfl hn hlen hf hroom⟩
            · cases h
          · cases h
        · split at h
          · rename_i t l0 _ l hcast
            obtain ⟨e, hcast⟩ := castL_some hcast
            subst e
            subst hcast
            split at h
            · rename_i hroom
              exact ⟨_, h, ap_oc hs hds ht2 hd2 hte rfl hn hlen hf hroom⟩
            · cases h
          · cases h
        · split at h
          · rename_i t l0 _ l hcast
            obtain ⟨e, hcast⟩ := castL_some hcast
            subst e
            subst hcast
            split at h
            · rename_i hroom
              exact ⟨_, h, ap_oc hs.capOc hds ht2 hd2 hte rfl hn hlen hf hroom⟩
            · cases h
          · cases h
        · cases h
      · cases h
    · cases h
  · cases h

theorem appendK_sound {cx : Cx} (hcx : CxOk P X cx) {st t2 ty : TypeId} {x y : D} {k : D → Option R} {r : R} (h : appendK cx st x y k = some r) {g env vals sto} {vx vy : Value}
    (hs : Sim X g w (env ++ [x]) (vals ++ [vx]) sto) (hy : RepV X g.φ g.G w y vy) {d2 : TypeDesc} (ht2 : P.underlying t2 = some d2) (hd2 : (∃ e2, d2 = .slice e2) ∨ d2 = .string) :
    ∃ d, k d = some r ∧ ApOk P X w g env vals sto st t2 ty vx vy d := appendK_soundT hcx h hs (fun h => tail_sound h hy) ht2 hd2

end
end Go.Ev

/-! Slices, fields, indexes. -/
namespace Go.Ev
section
variable {P : Program} {X : Cfg} {R : Type} {φ : List Nat} {G : Nat → Nat} {w : World}

theorem boundK_sound {x : D} {m : Nat} {k : Nat → Option R} {r : R} (h : boundK x m k = some r) {vx : Value} (hx : RepV X φ G w x vx) {hi : Nat} (hm : m ≤ hi) (code : BoundsCode) :
    ∃ n, k n = some r ∧ n ≤ m ∧ (Instr.sliceBound vx hi code).run P w = .ok n w := by
  unfold boundK at h
  split at h
  · rename_i kd n
    split at h
    · rename_i hb
      have hb0 := of_decide_eq_true hb
      obtain ⟨rfl, _⟩ := rep_int hx
      refine ⟨n.toNat, h, by omega, ?_⟩
      have h1 : 0 ≤ n ∧ n ≤ (hi : Int) := ⟨hb0.1, by omega⟩
      simp [Instr.sliceBound, asIntOf, h1]
    · cases h
  · cases h

theorem ofList_extract (s : List UInt8) (l h : Nat) : (⟨s.toArray⟩ : ByteArray).extract l h = ⟨((s.take h).drop l).toArray⟩ := by
  apply ByteArray.ext
  rw [ByteArray.data_extract]
  apply Array.ext'
  simp [List.drop_take]

/-- The optional bounds, off the evaluator's. -/
def vOpt (a : Act) (x : Option Operand) : Option Value := x.map a.eval

theorem optK_sound {g : Gh} {env sto} {a : Act} (hs : Sim X g w env a.tmps.toList sto) {x : Option Operand} {d m : Nat} {k : Nat → Option R} {r : R}
    (h : optK (x.map (rd env)) d m k = some r) : (x = none ∧ k d = some r) ∨ ∃ y, x = some y ∧ boundK (rd env y) m k = some r := by
  cases x with
  | none => exact .inl ⟨rfl, h⟩
  | some y => exact .inr ⟨y, rfl, h⟩

theorem bounds_sound {g : Gh} {env sto} {a : Act} (hs : Sim X g w env a.tmps.toList sto) {lo hi : Option Operand} {len cap : Nat} (hlc : len ≤ cap) {isS : Bool} {k : Nat → Nat → Option R} {r : R}
    (h : (optK (hi.map (rd env)) len len fun h => optK (lo.map (rd env)) 0 h fun l => k h l) = some r) :
    ∃ hh l, k hh l = some r ∧ l ≤ hh ∧ hh ≤ len ∧ (Instr.sliceBounds isS len cap (lo.map a.eval) (hi.map a.eval) none).run P w = .ok (l, hh, cap) w := by
  have step : ∀ hh, hh ≤ len → (optK (lo.map (rd env)) 0 hh fun l => k hh l) = some r →
      ∃ l, k hh l = some r ∧ l ≤ hh ∧ ((match lo.map a.eval with | some v => Instr.sliceBound v hh .sliceB | none => pure 0 : Sem Nat)).run P w = .ok l w := by
    intro hh _ h2
    rcases optK_sound hs h2 with ⟨rfl, h2'⟩ | ⟨y, rfl, h2'⟩
    · exact ⟨0, h2', by omega, rfl⟩
    · obtain ⟨n, h3, h4, h5⟩ := boundK_sound (P := P) h2' (hs.read y) (Nat.le_refl hh) .sliceB
      exact ⟨n, h3, h4, h5⟩
  rcases optK_sound hs h with ⟨rfl, h'⟩ | ⟨y, rfl, h'⟩
  · obtain ⟨l, h1, h2, h3⟩ := step len (Nat.le_refl _) h'
    refine ⟨len, l, h1, h2, Nat.le_refl _, ?_⟩
    cases lo <;> simp [Instr.sliceBounds] at h3 ⊢
    · exact h3
    · simp [h3]
  · obtain ⟨hh, h1, h2, h3⟩ := boundK_sound (P := P) h' (hs.read y) hlc (if isS then .sliceAcap else .sliceAlen)
    obtain ⟨l, h4, h5, h6⟩ := step hh h2 h1
    refine ⟨hh, l, h4, h5, h2, ?_⟩
    cases isS <;> cases lo <;> simp [Instr.sliceBounds] at h3 h6 ⊢ <;> simp [h3, h6]

theorem rep_sub {m m' : Md} {t : Ty} {l : List t.den} {b off cap lo hh : Nat} (h : RepV X φ G w (.sl m t l) (.slice (some ⟨b, off, none⟩) l.length cap)) (hlo : lo ≤ hh) (hhi : hh ≤ l.length) (hm0 : m' ≠ .own ∧ m' ≠ .oc)
    {cap' : Nat} (hcap' : cap' ≤ cap - lo) (hc1 : hh - lo ≤ cap') (hm : m' = .cap → cap' = hh - lo) :
    RepV X φ G w (.sl m' t ((l.take hh).drop lo)) (.slice (some ⟨b, off + lo * t.size, none⟩) (hh - lo) cap') := by
  rcases rep_slice_inv h with ⟨_, h0, _⟩ | ⟨rfl, _, _, _, _, hmax⟩ | ⟨b', off', vs, h0, _, hlen, hcap, hmax, hp, hc, hr⟩
  · cases h0
  · obtain rfl : hh = 0 := by simpa using hhi
    obtain rfl : lo = 0 := by omega
    simpa using RepV.slE (X := X) (φ := φ) (G := G) (w := w) (t := t) (p := ⟨b, off, none⟩) (cap := cap') hm0.1 (fun e => e.elim (fun e => by simpa using hm e) (fun e => absurd e hm0.2)) (by omega)
  cases h0
  have hl : ((l.take hh).drop lo).length = hh - lo := by simp; omega
  have hmul : (hh - lo) * t.size + lo * t.size ≤ l.length * t.size := by
    rw [← Nat.add_mul]; exact Nat.mul_le_mul_right _ (by omega)
  have := RepV.sl (X := X) (φ := φ) (G := G) (w := w) (m := m') (t := t) (l := (l.take hh).drop lo) (b := b) (off := off + lo * t.size) (cap := cap') (fun j => vs (lo * t.size + j))
    (by omega) (fun e => by rw [hl]; exact hm e) (by omega) (by rw [hl]; omega) (fun j hj => by rw [hl] at hj; rw [Nat.add_assoc]; exact hc _ (by omega))
    (fun i x hx j c hj => by
      have hil := (List.getElem?_eq_some_iff.1 hx).1
      rw [hl] at hil
      rw [List.getElem?_drop, List.getElem?_take] at hx
      rw [if_pos (by omega)] at hx
      have := hr (lo + i) x hx j c hj
      rw [Nat.add_mul, Nat.add_assoc] at this
      exact this)
  rw [hl] at this
  exact this

theorem desc_slice {cx : Cx} (hcx : CxOk P X cx) {t : TypeId} {te : TE} {e : TypeId} (h : look cx.tab t = some te) (hd : te.d = .slice e) : P.underlying t = some (.slice e) := by
  obtain ⟨d, h1, h2⟩ := desc_int hcx h
  rw [hd] at h2
  cases d <;> first | (have := Nat.eq_of_beq_eq_true h2; subst this; exact h1) | cases h2

theorem desc_str {cx : Cx} (hcx : CxOk P X cx) {t : TypeId} {te : TE} (h : look cx.tab t = some te) (hd : te.d = .str) : P.underlying t = some .string := by
  obtain ⟨d, h1, h2⟩ := desc_int hcx h
  rw [hd] at h2
  cases d <;> first | exact h1 | cases h2

theorem desc_kind {cx : Cx} (hcx : CxOk P X cx) {t : TypeId} {te : TE} {k : IntKind} (h : look cx.tab t = some te) (hd : te.d = .int k) : P.underlying t = some (.int k) := by
  obtain ⟨d, h1, h2⟩ := desc_int hcx h
  rw [hd] at h2
  cases d <;> first | (have := of_decide_eq_true h2; subst this; exact h1) | cases h2

theorem desc_array {cx : Cx} (hcx : CxOk P X cx) {t : TypeId} {te : TE} {n : Nat} {e : TypeId} (h : look cx.tab t = some te) (hd : te.d = .array n e) : P.underlying t = some (.array n e) := by
  obtain ⟨d, h1, h2⟩ := desc_int hcx h
  rw [hd] at h2
  cases d <;> first | cases h2; done | skip
  simp only [descB, Bool.and_eq_true] at h2
  rw [Nat.eq_of_beq_eq_true h2.1, Nat.eq_of_beq_eq_true h2.2]; exact h1

theorem desc_struct {cx : Cx} (hcx : CxOk P X cx) {t : TypeId} {te : TE} {fs : List FI} (h : look cx.tab t = some te) (hd : te.d = .struct fs) : ∃ F, P.underlying t = some (.struct F) ∧ fieldsB P fs F.toList = true := by
  obtain ⟨d, h1, h2⟩ := desc_int hcx h
  rw [hd] at h2
  cases d <;> first | cases h2; done | exact ⟨_, h1, h2⟩

theorem tyOk_str {cx : Cx} (hcx : CxOk P X cx) {t : TypeId} {s : List UInt8} (h : tyOk cx t (.str s) = true) : P.underlying t = some .string := by
  unfold tyOk at h
  cases hl : look cx.tab t with
  | none => rw [hl] at h; cases h
  | some te =>
    rw [hl] at h
    cases te with
    | mk d _ _ _ _ _ => cases d <;> first | exact desc_str hcx hl rfl | cases h

theorem tyOk_nils {cx : Cx} (hcx : CxOk P X cx) {t : TypeId} (h : tyOk cx t .nils = true) : ∃ e te, P.underlying t = some (.slice e) ∧ TEok P e te := by
  unfold tyOk at h
  cases hl : look cx.tab t with
  | none => rw [hl] at h; cases h
  | some te0 =>
    rw [hl] at h
    cases te0 with
    | mk d _ _ _ _ _ =>
      cases d with
      | slice e =>
        simp only at h
        cases h2 : look cx.tab e with
        | none => rw [h2] at h; cases h
        | some te => exact ⟨e, te, desc_slice hcx hl rfl, hcx.tab _ _ h2⟩
      | _ => cases h

theorem tyOk_sl {cx : Cx} (hcx : CxOk P X cx) {t : TypeId} {m : Md} {ty : Ty} {l : List ty.den} (h : tyOk cx t (.sl m ty l) = true) :
    ∃ e te, P.underlying t = some (.slice e) ∧ look cx.tab e = some te ∧ TEok P e te ∧ te.size = ty.size := by
  unfold tyOk at h
  cases hl : look cx.tab t with
  | none => rw [hl] at h; cases h
  | some te0 =>
    rw [hl] at h
    cases te0 with
    | mk d _ _ _ _ _ =>
      cases d with
      | slice e =>
        simp only at h
        cases h2 : look cx.tab e with
        | none => rw [h2] at h; cases h
        | some te => rw [h2] at h; exact ⟨e, te, desc_slice hcx hl rfl, h2, hcx.tab _ _ h2, Nat.eq_of_beq_eq_true h⟩
      | _ => cases h

theorem run_sizeOf' {t : TypeId} {te : TE} (h : TEok P t te) (w : World) : (sizeOf t).run P w = .ok te.size w := by
  obtain ⟨i, z, hi, hs, _⟩ := h.info
  simp [sizeOf, typeInfo, hi, hs]

theorem rep_cut {m m' : Md} {t : Ty} {l : List t.den} {ao : Option Addr} {cap lo hh : Nat} (h : RepV X φ G w (.sl m t l) (.slice ao l.length cap)) (hlo : lo ≤ hh) (hhi : hh ≤ l.length) (hm0 : m' ≠ .own ∧ m' ≠ .oc) (hmn : m' ≠ .nn)
    {c : Nat} (hcc : c ≤ cap) (hc1 : hh - lo ≤ c - lo) (hm : m' = .cap → c - lo = hh - lo) :
    RepV X φ G w (.sl m' t ((l.take hh).drop lo)) (.slice (if c = lo then ao else ao.map (·.add (lo * t.size))) (hh - lo) (c - lo)) := by
  have hl : ((l.take hh).drop lo).length = hh - lo := by simp; omega
  rcases rep_slice_inv h with ⟨e0, e1, _, e2, _⟩ | ⟨e0, ⟨p, e1⟩, _, _, _, hmax⟩ | ⟨b, off, vs, e1, _, hlen, hcap, hmax, hp, hc, hr⟩
  · subst e0; subst e1; subst e2
    obtain rfl : hh = 0 := by simpa using hhi
    obtain rfl : lo = 0 := by omega
    obtain rfl : c = 0 := by omega
    simp
    exact .slNil hmn
  · subst e0; subst e1
    obtain rfl : hh = 0 := by simpa using hhi
    obtain rfl : lo = 0 := by omega
    have fin : ∀ q : Addr, RepV X φ G w (.sl m' t []) (.slice (some q) 0 c) := fun q => .slE hm0.1 (fun e => e.elim (fun e => by simpa using hm e) (fun e => absurd e hm0.2)) (by omega)
    by_cases e : c = 0
    · simpa [e] using (e ▸ fin p : RepV X φ G w (.sl m' t []) (.slice (some p) 0 0))
    · simpa [e] using fin (p.add 0)
  · subst e1
    by_cases e : c = lo
    · subst e
      have e2 : hh = c := by omega
      subst e2
      have e3 : (l.take hh).drop hh = [] := List.eq_nil_of_length_eq_zero (by rw [hl]; omega)
      rw [e3, if_pos rfl, Nat.sub_self]
      have := RepV.sl (X := X) (φ := φ) (G := G) (w := w) (m := m') (t := t) (l := []) (b := b) (off := off) (cap := 0) vs (by simp) (fun _ => rfl) (by omega) (by simp; omega) (fun j hj => by simp at hj) (fun i x hx => by simp at hx)
      exact this
    · rw [if_neg e, Option.map_some, Addr.add_mid]
      exact rep_sub h hlo hhi hm0 (by omega) hc1 hm

theorem op_slice {g : Gh} {env : List D} {sto : Sto} {o : Oper} {a : Act} {k : St → Option R} {r : R} {cx : Cx} (hcx : CxOk P X cx) (t : TypeId) (x : Operand) (lo hi mx : Option Operand) (ho : o.op = .slice t x lo hi mx)
    (hs : Sim X g w env a.tmps.toList sto) (hty : tyOk cx t (rd env x) = true)
    (h : (sliceK (rd env x) (lo.map (rd env)) (hi.map (rd env)) (mx.map (rd env)) fun d => k ⟨put env o.dst d, sto⟩) = some r) : OpOk P X o a w g k r := by
  have hx := hs.read x
  generalize hdx : rd env x = dx at h hx hty
  generalize hvx : a.eval x = vx at hx
  unfold sliceK at h
  split at h
  · rename_i s
    obtain ⟨rfl, hsl⟩ := rep_str hx
    have hu := tyOk_str hcx hty
    cases mx with
    | some m => simp at h
    | none =>
      simp only [Option.map_none] at h
      obtain ⟨hh, l, h1, h2, h3, h4⟩ := bounds_sound (P := P) (isS := false) hs (Nat.le_refl s.length) h
      refine opOk_pure hs (.string ⟨((s.take hh).drop l).toArray⟩) _ ?_ (.str _ ?_) rfl h1
      · have hsz : (⟨s.toArray⟩ : ByteArray).size = s.length := rfl
        simp [execOp, ho, Instr.sliceAt, run_underlying hu, hvx, Instr.slice, hsz, h4, ofList_extract]
      · show ((s.take hh).drop l).length ≤ _
        simp; omega
  · cases hx
    obtain ⟨e, te, hu, hte⟩ := tyOk_nils hcx hty
    cases mx with
    | some m => simp at h
    | none =>
      simp only [Option.map_none] at h
      obtain ⟨hh, l, h1, h2, h3, h4⟩ := bounds_sound (P := P) (isS := true) hs (Nat.le_refl 0) h
      obtain rfl : hh = 0 := by omega
      obtain rfl : l = 0 := by omega
      refine opOk_pure hs (.slice none 0 0) _ ?_ .nils rfl h1
      simp [execOp, ho, Instr.sliceAt, run_underlying hu, hvx, Instr.slice, h4, run_sizeOf' hte]
  · rename_i m ty l
    obtain ⟨e, te, hu, _, hte, hts⟩ := tyOk_sl hcx hty
    obtain ⟨ao, cap, rfl⟩ := rep_slice_form hx
    have hsz := run_sizeOf' hte w
    rw [hts] at hsz
    have hlc : l.length ≤ cap := by
      rcases rep_slice_inv hx with ⟨e0, _, _, e2, _⟩ | ⟨e0, _⟩ | ⟨b, off, vs, e1, _, hlc, _⟩
      · subst e0; simp
      · subst e0; simp
      · exact hlc
    split at h
    · rename_i hm
      obtain rfl : mx = none := by cases mx <;> first | rfl | cases hm
      obtain ⟨hh, lw, h1, h2, h3, h4⟩ := bounds_sound (P := P) (isS := true) hs hlc h
      have hrun : (execOp a.eval o).run P w = .ok (.value (.slice (if cap = lw then ao else ao.map (·.add (lw * ty.size))) (hh - lw) (cap - lw))) w := by
        simp [execOp, ho, Instr.sliceAt, run_underlying hu, hvx, Instr.slice, h4, hsz]
      refine opOk_pure hs _ _ hrun ?_ rfl h1
      exact rep_cut hx h2 h3 (by decide) (by decide) (Nat.le_refl _) (by omega) (by intro h; cases h)
    · rename_i km mv hm
      split at h
      · rename_i kh hv hhi
        split at h
        · rename_i heq
          have heq := of_decide_eq_true heq
          subst heq
          obtain ⟨ym, rfl, hym⟩ : ∃ ym, mx = some ym ∧ rd env ym = .int km hv := by
            cases mx with
            | none => cases hm
            | some ym => exact ⟨ym, rfl, Option.some.inj hm⟩
          obtain ⟨yh, rfl, hyh⟩ : ∃ yh, hi = some yh ∧ rd env yh = .int kh hv := by
            cases hi with
            | none => cases hhi
            | some yh => exact ⟨yh, rfl, Option.some.inj hhi⟩
          obtain ⟨hvm, _⟩ := rep_int (hym ▸ hs.read ym)
          obtain ⟨hvh, _⟩ := rep_int (hyh ▸ hs.read yh)
          unfold boundK at h
          simp only at h
          split at h
          · rename_i hb
            have hb := of_decide_eq_true hb
            have hbm : (Instr.sliceBound (.int km hv) cap .slice3Acap).run P w = .ok hv.toNat w := by
              have : 0 ≤ hv ∧ hv ≤ (cap : Int) := ⟨hb.1, by omega⟩
              simp [Instr.sliceBound, asIntOf, this]
            have hbh : (Instr.sliceBound (.int kh hv) hv.toNat .slice3B).run P w = .ok hv.toNat w := by
              have : 0 ≤ hv ∧ hv ≤ (hv.toNat : Int) := ⟨hb.1, by omega⟩
              unfold Instr.sliceBound
              simp only [asIntOf, Sem.run_bind, Sem.run_pure, Result.andThen_ok, if_pos this]
            obtain ⟨lw, hkl, hll, hrl⟩ : ∃ lw, k ⟨put env o.dst (.sl .cap ty ((l.take hv.toNat).drop lw)), sto⟩ = some r ∧ lw ≤ hv.toNat ∧
                ((match lo.map a.eval with | some v => Instr.sliceBound v hv.toNat .slice3C | none => pure 0 : Sem Nat)).run P w = .ok lw w := by
              rcases optK_sound hs h with ⟨rfl, h'⟩ | ⟨y, rfl, h'⟩
              · exact ⟨0, h', by omega, rfl⟩
              · obtain ⟨n, h3, h4, h5⟩ := boundK_sound (P := P) h' (hs.read y) (Nat.le_refl _) .slice3C
                exact ⟨n, h3, h4, h5⟩
            have hbnd : (Instr.sliceBounds true l.length cap (lo.map a.eval) (some (.int kh hv)) (some (.int km hv))).run P w = .ok (lw, hv.toNat, hv.toNat) w := by
              cases lo <;> simp [Instr.sliceBounds, hbm, hbh] at hrl ⊢ <;> simp [hrl]
            have hrun : (execOp a.eval o).run P w = .ok (.value (.slice (if hv.toNat = lw then ao else ao.map (·.add (lw * ty.size))) (hv.toNat - lw) (hv.toNat - lw))) w := by
              simp [execOp, ho, Instr.sliceAt, run_underlying hu, hvx, Instr.slice, hvm, hvh, hbnd, hsz]
            refine opOk_pure hs _ _ hrun ?_ rfl hkl
            exact rep_cut hx hll (by omega) (by decide) (by decide) (by omega) (Nat.le_refl _) (fun _ => rfl)
          · cases h
        · cases h
      · cases h
    · cases h
  · cases h

end
end Go.Ev

/-! Fields, indexes, conversions, lengths. -/
namespace Go.Ev
section
variable {P : Program} {X : Cfg} {R : Type} {w : World}
variable {g : Gh} {env : List D} {sto : Sto} {o : Oper} {a : Act} {k : St → Option R} {r : R} {cx : Cx}

theorem field_get {fs : List FI} {F : Array Field} (h : fieldsB P fs F.toList = true) {f : Nat} {fi : FI} (hf : fs[f]? = some fi) :
    ∃ fl, F[f]? = some fl ∧ fl.offset = fi.off ∧ (∀ w, (sizeOf fl.type).run P w = .ok fi.size w) ∧ (∃ d, P.underlying fl.type = some d ∧ isAggB d = fi.agg) ∧ (fi.agg = false → fi.size = 1) := by
  obtain ⟨fl, h1, h2⟩ := fieldsB_get h f fi hf
  unfold fieldB at h2
  rw [Bool.and_eq_true] at h2
  obtain ⟨h3, h4⟩ := h2
  split at h4
  · rename_i i d hi hd
    simp only [Bool.and_eq_true] at h4
    obtain ⟨⟨h5, h6⟩, h7⟩ := h4
    refine ⟨fl, by simpa using h1, Nat.eq_of_beq_eq_true h3, fun w => ?_, ⟨d, hd, by simpa using h6⟩, fun ha => ?_⟩
    · simp [sizeOf, typeInfo, hi, Nat.eq_of_beq_eq_true h5]
    · rw [ha] at h7; exact Nat.eq_of_beq_eq_true (by simpa using h7)
  · cases h4

theorem rep_box_drop {φ G} {cs : List D} {b off n : Nat} (h : RepV X φ G w (.box cs) (.pointer (some ⟨b, off, none⟩))) (hn : n ≤ cs.length) : RepV X φ G w (.box (cs.drop n)) (.pointer (some ⟨b, off + n, none⟩)) := by
  obtain ⟨b', off', vs, hv, hp, hc, hcl, hr⟩ := rep_box h
  cases hv
  refine .box (fun j => vs (n + j)) (by simp; omega) (fun j hj => by simp at hj; rw [Nat.add_assoc]; exact hc _ (by omega)) (fun j c hj => ?_) (fun j c hj => ?_)
  · rw [List.getElem?_drop] at hj; exact hcl _ c hj
  · rw [List.getElem?_drop] at hj; exact hr _ c hj

theorem op_fieldAddr (hcx : CxOk P X cx) (t : TypeId) (x : Operand) (f : Nat) (ho : o.op = .fieldAddr t x f) (hs : Sim X g w env a.tmps.toList sto) {te : TE} {fs : List FI} {fi : FI}
    (ht : look cx.tab t = some te) (hd : te.d = .struct fs) (hf : fs[f]? = some fi) (hz : fi.size ≠ 0)
    (h : (∃ i off, rd env x = .ptr i off ∧ k ⟨put env o.dst (.ptr i (off + fi.off)), sto⟩ = some r) ∨
      (∃ cs, rd env x = .box cs ∧ fi.off ≤ cs.length ∧ k ⟨put env o.dst (.box (cs.drop fi.off)), sto⟩ = some r)) : OpOk P X o a w g k r := by
  obtain ⟨F, hu, hF⟩ := desc_struct hcx ht hd
  obtain ⟨fl, h1, h2, h3, _⟩ := field_get hF hf
  have hx := hs.read x
  rcases h with ⟨i, off, he, hk⟩ | ⟨cs, he, hle, hk⟩
  · rw [he] at hx
    obtain ⟨b, hb, hv⟩ := rep_ptr hx
    refine opOk_pure hs (.pointer (some ⟨b, off + fi.off, none⟩)) _ ?_ (.ptr hb) rfl hk
    simp [execOp, ho, hv, Instr.fieldAt, run_underlying hu, h1, Instr.sureAddr, fieldPlace, h3, hz, h2, Addr.add_mid]
  · rw [he] at hx
    obtain ⟨b, off, vs, hv, _⟩ := rep_box hx
    rw [hv] at hx
    refine opOk_pure hs (.pointer (some ⟨b, off + fi.off, none⟩)) _ ?_ (rep_box_drop hx hle) rfl hk
    simp [execOp, ho, hv, Instr.fieldAt, run_underlying hu, h1, Instr.sureAddr, fieldPlace, h3, hz, h2, Addr.add_mid]

theorem part_sound {φ G} {t : TypeId} {sz : Nat} {ag : Bool} (hsz : ∀ w, (sizeOf t).run P w = .ok sz w) (hag : ∃ d, P.underlying t = some d ∧ isAggB d = ag) (h1 : ag = false → sz = 1)
    {cs : List D} {vs : Array Value} (h : RepV X φ G w (.agg cs) (.agg vs)) {off : Nat} (hle : off + sz ≤ cs.length) :
    ∃ v, (part t vs off).run P w = .ok v w ∧ RepV X φ G w (ofCells ag (((cs.drop off).take sz).map D.dup1)) v := by
  obtain ⟨d, hd, hda⟩ := hag
  cases h with
  | agg hl hr =>
    have hrun := run_isAgg (P := P) hd w
    rw [hda] at hrun
    cases ag with
    | true =>
      refine ⟨.agg (vs.extract off (off + sz)), by simp [part, hrun, hsz], .agg (by simp; omega) (fun j c hj => ?_)⟩
      simp only [List.getElem?_map, Option.map_eq_some_iff] at hj
      obtain ⟨c0, h0, rfl⟩ := hj
      have hjs : j < sz := by have := (List.getElem?_eq_some_iff.1 h0).1; simp at this; omega
      rw [List.getElem?_take, if_pos hjs, List.getElem?_drop] at h0
      have := hr _ _ h0
      have e : (vs.extract off (off + sz)).getD j undef = vs.getD (off + j) undef := by
        simp only [Array.getD_eq_getD_getElem?]
        congr 1
        rw [Array.getElem?_extract]
        simp; omega
      rw [e]; exact this.dup1
    | false =>
      have := h1 rfl
      subst this
      have hlt : off < vs.size := by omega
      refine ⟨vs[off], by simp [part, hrun, hlt], ?_⟩
      have hc : cs[off]? = some (cs[off]'(by omega)) := List.getElem?_eq_getElem (by omega)
      have hd1 : (cs.drop off).take 1 = [cs[off]'(by omega)] := by
        apply List.ext_getElem?
        intro j
        rw [List.getElem?_take, List.getElem?_drop]
        cases j with
        | zero => simp [hc]
        | succ j => simp
      rw [hd1]
      have := hr off _ hc
      simp only [Array.getD_eq_getD_getElem?, hlt, Array.getElem?_eq_getElem, Option.getD_some] at this
      exact this.dup1.dup

theorem op_field (hcx : CxOk P X cx) (t : TypeId) (x : Operand) (f : Nat) (ho : o.op = .field t x f) (hs : Sim X g w env a.tmps.toList sto) {te : TE} {fs : List FI} {fi : FI} {cs : List D}
    (ht : look cx.tab t = some te) (hd : te.d = .struct fs) (hf : fs[f]? = some fi) (he : rd env x = .agg cs) (hle : fi.off + fi.size ≤ cs.length)
    (hk : k ⟨put env o.dst (ofCells fi.agg (((cs.drop fi.off).take fi.size).map D.dup1)), sto⟩ = some r) : OpOk P X o a w g k r := by
  obtain ⟨F, hu, hF⟩ := desc_struct hcx ht hd
  obtain ⟨fl, h1, h2, h3, h4, h5⟩ := field_get hF hf
  have hx := hs.read x
  rw [he] at hx
  obtain ⟨vs, hv⟩ := rep_agg hx _ rfl
  rw [hv] at hx
  obtain ⟨v, hrun, hr⟩ := part_sound h3 h4 h5 hx hle
  exact opOk_pure hs v _ (by simp [execOp, ho, hv, Instr.field, run_underlying hu, h1, asAgg, h2, hrun]) hr (ofCells_free _ _) hk

theorem nth_spec {α : Type} {l : List α} {n : Int} {x : α} (h : nth l n = some x) : 0 ≤ n ∧ n < (l.length : Int) ∧ l[n.toNat]? = some x := by
  unfold nth at h
  split at h
  · rename_i hn
    have := (List.getElem?_eq_some_iff.1 h).1
    exact ⟨hn, by omega, h⟩
  · cases h

theorem op_indexSl (hcx : CxOk P X cx) (t : TypeId) (x ix : Operand) (ho : o.op = .indexAddr t x ix) (hs : Sim X g w env a.tmps.toList sto) {m : Md} {ty : Ty} {l : List ty.den} {kd : IntKind} {n : Int} {e : ty.den}
    (hx : rd env x = .sl m ty l) (hty : tyOk cx t (.sl m ty l) = true) (hi : rd env ix = .int kd n) (hn : nth l n = some e)
    (hk : k ⟨put env o.dst (.box (cells ty e)), sto⟩ = some r) : OpOk P X o a w g k r := by
  obtain ⟨el, te, hu, _, hte, hts⟩ := tyOk_sl hcx hty
  obtain ⟨h0, h1, h2⟩ := nth_spec hn
  have hrx := hs.read x
  rw [hx] at hrx
  generalize hvx : a.eval x = vx at hrx
  obtain ⟨ao, cap, rfl⟩ := rep_slice_form hrx
  obtain ⟨hvi, _⟩ := rep_int (hi ▸ hs.read ix)
  rcases rep_slice_inv hrx with ⟨e0, _⟩ | ⟨e0, _⟩ | ⟨b, off, vs, e1, _, hlen, _, hmax, hp, hc, hr⟩
  · subst e0; simp at h2
  · subst e0; simp at h2
  · subst e1
    have hil : n.toNat < l.length := by omega
    refine opOk_pure hs (.pointer (some ⟨b, off + n.toNat * ty.size, none⟩)) _ ?_ ?_ rfl hk
    · simp [execOp, ho, hvx, hvi, Instr.indexAt, asIntOf, run_underlying hu, h0, h1, run_sizeOf' hte, hts, Addr.add_mid]
    · have hcl := cells_length ty e
      have hmul : n.toNat * ty.size + ty.size ≤ l.length * ty.size := by
        rw [← Nat.succ_mul]; exact Nat.mul_le_mul_right _ hil
      refine .box (fun j => vs (n.toNat * ty.size + j)) (by rw [hcl]; omega) (fun j hj => by rw [hcl] at hj; rw [Nat.add_assoc]; exact hc _ (by omega)) (fun j c hj => cells_closed _ _ _ _ hj)
        (fun j c hj => hr _ _ h2 j c hj)

theorem op_indexArr (hcx : CxOk P X cx) (t : TypeId) (x ix : Operand) (ho : o.op = .indexAddr t x ix) (hs : Sim X g w env a.tmps.toList sto) {te0 te : TE} {len : Nat} {e : TypeId} {i off : Nat} {kd : IntKind} {n : Int}
    (ht : look cx.tab t = some te0) (hd : te0.d = .array len e) (hte : look cx.tab e = some te) (hx : rd env x = .ptr i off) (hi : rd env ix = .int kd n) (hn : 0 ≤ n ∧ n < (len : Int))
    (hk : k ⟨put env o.dst (.ptr i (off + n.toNat * te.size)), sto⟩ = some r) : OpOk P X o a w g k r := by
  have hu := desc_array hcx ht hd
  obtain ⟨b, hb, hv⟩ := rep_ptr (hx ▸ hs.read x)
  obtain ⟨hvi, _⟩ := rep_int (hi ▸ hs.read ix)
  refine opOk_pure hs (.pointer (some ⟨b, off + n.toNat * te.size, none⟩)) _ ?_ (.ptr hb) rfl hk
  simp [execOp, ho, hv, hvi, Instr.indexAt, asIntOf, run_underlying hu, Instr.sureAddr, hn.1, hn.2, run_sizeOf' (hcx.tab _ _ hte), Addr.add_mid]

theorem op_indexStr (hcx : CxOk P X cx) (t : TypeId) (x ix : Operand) (ho : o.op = .index t x ix) (hs : Sim X g w env a.tmps.toList sto) {te : TE} {s : List UInt8} {kd : IntKind} {n : Int} {b : UInt8}
    (ht : look cx.tab t = some te) (hd : te.d = .str) (hx : rd env x = .str s) (hi : rd env ix = .int kd n) (hn : nth s n = some b)
    (hk : k ⟨put env o.dst (.int .u8 (b.toNat : Int)), sto⟩ = some r) : OpOk P X o a w g k r := by
  have hu := desc_str hcx ht hd
  obtain ⟨hv, _⟩ := rep_str (hx ▸ hs.read x)
  obtain ⟨hvi, _⟩ := rep_int (hi ▸ hs.read ix)
  obtain ⟨h0, h1, h2⟩ := nth_spec hn
  have hbt := b.toNat_lt
  refine opOk_pure hs (.int .u8 (b.toNat : Int)) _ ?_ (.int (by simp only [InR, lo, Ev.hi]; omega)) rfl hk
  have e : (⟨s.toArray⟩ : ByteArray)[n.toNat]? = some b := by
    have hlt : n.toNat < s.length := (List.getElem?_eq_some_iff.1 h2).1
    have : s[n.toNat] = b := (List.getElem?_eq_some_iff.1 h2).2
    rw [getElem?_pos _ _ (by exact hlt)]
    congr 1
  simp [execOp, ho, hv, hvi, Instr.index, asIntOf, run_underlying hu, h0, e]

theorem op_indexAgg (hcx : CxOk P X cx) (t : TypeId) (x ix : Operand) (ho : o.op = .index t x ix) (hs : Sim X g w env a.tmps.toList sto) {te0 te : TE} {len : Nat} {e : TypeId} {cs : List D} {kd : IntKind} {n : Int}
    (ht : look cx.tab t = some te0) (hd : te0.d = .array len e) (hte : look cx.tab e = some te) (hx : rd env x = .agg cs) (hi : rd env ix = .int kd n) (hn : 0 ≤ n ∧ n < (len : Int))
    (hle : n.toNat * te.size + te.size ≤ cs.length)
    (hk : k ⟨put env o.dst (ofCells te.agg (((cs.drop (n.toNat * te.size)).take te.size).map D.dup1)), sto⟩ = some r) : OpOk P X o a w g k r := by
  have hu := desc_array hcx ht hd
  have hr := hs.read x
  rw [hx] at hr
  obtain ⟨vs, hv⟩ := rep_agg hr _ rfl
  rw [hv] at hr
  obtain ⟨hvi, _⟩ := rep_int (hi ▸ hs.read ix)
  have hteo := hcx.tab _ _ hte
  obtain ⟨d, hdd, hda, _⟩ := hteo.desc
  obtain ⟨v, hrun, hrv⟩ := part_sound (run_sizeOf' hteo) ⟨d, hdd, hda⟩ hteo.one hr hle
  exact opOk_pure hs v _ (by simp [execOp, ho, hv, hvi, Instr.index, asIntOf, run_underlying hu, hn.1, hn.2, run_sizeOf' hteo, hrun]) hrv (ofCells_free _ _) hk

theorem op_len (hcx : CxOk P X cx) {x : Operand} {t : TypeId} (ho : o.op = .call { callee := .builtin .len, args := #[x], argTypes := #[t] }) (hs : Sim X g w env a.tmps.toList sto) {te : TE} (ht : look cx.tab t = some te) {n : Int}
    (h : (te.d = .str ∧ ∃ s, rd env x = .str s ∧ n = s.length) ∨ (∃ e, te.d = .slice e ∧ lenD (rd env x) = some n ∧ ∀ s, rd env x ≠ .str s) ∨ (∃ l e, te.d = .array l e ∧ n = (l : Int) ∧ l ≤ 9223372036854775807))
    (hk : k ⟨put env o.dst (.int .i64 n), sto⟩ = some r) : OpOk P X o a w g k r := by
  have hr := hs.read x
  rcases h with ⟨hd, s, hx, rfl⟩ | ⟨e, hd, hl, hns⟩ | ⟨l, e, hd, rfl, hle⟩
  · have hu := desc_str hcx ht hd
    rw [hx] at hr
    obtain ⟨hv, hsl⟩ := rep_str hr
    refine opOk_pure hs (.int .i64 s.length) _ ?_ (.int (by simp only [InR, lo, hi]; omega)) rfl hk
    have hsz : (⟨s.toArray⟩ : ByteArray).size = s.length := rfl
    simp [execOp, ho, resolve, invoke, builtin, Builtin.len_, run_underlying hu, hv, goInt, hsz]
  · have hu := desc_slice hcx ht hd
    generalize hdx : rd env x = dx at hr hl hns
    generalize hvx : a.eval x = vx at hr
    unfold lenD at hl
    split at hl
    · exact absurd rfl (hns _)
    · cases hl; cases hr
      refine opOk_pure hs (.int .i64 0) _ ?_ (.int (by simp [InR, lo, hi])) rfl hk
      simp [execOp, ho, resolve, invoke, builtin, Builtin.len_, run_underlying hu, hvx, goInt]
    · cases hl
      obtain ⟨ao, cap, rfl⟩ := rep_slice_form hr
      have hlen : ∀ {m ty} {l : List (Ty.den ty)}, RepV X g.φ g.G w (.sl m ty l) (.slice ao l.length cap) → l.length ≤ 9223372036854775807 := by
        intro m ty l h
        rcases rep_slice_inv h with ⟨e0, _⟩ | ⟨e0, _⟩ | ⟨b, off, vs, _, _, hlen, _, hmax, _⟩
        · subst e0; simp
        · subst e0; simp
        · omega
      have := hlen hr
      refine opOk_pure hs _ _ ?_ (.int (by simp only [InR, lo, hi]; omega)) rfl hk
      simp [execOp, ho, resolve, invoke, builtin, Builtin.len_, run_underlying hu, hvx, goInt]
    · cases hl
  · have hu := desc_array hcx ht hd
    refine opOk_pure hs (.int .i64 l) _ ?_ (.int (by simp only [InR, lo, hi]; omega)) rfl hk
    simp [execOp, ho, resolve, invoke, builtin, Builtin.len_, run_underlying hu, goInt]

theorem op_extract {x : Operand} {i : Nat} (ho : o.op = .extract x i) (hs : Sim X g w env a.tmps.toList sto) {cs : List D} {c : D} (hx : rd env x = .tup cs) (hc : cs[i]? = some c)
    (hlf : c.free = true ∨ c.leaf = true) (hk : k ⟨put (left env x) o.dst c, sto⟩ = some r) : OpOk P X o a w g k r := by
  obtain ⟨g1, h1, e1, _⟩ := hs.take x
  have hl : (left env x).length = a.tmps.toList.length := by have := h1.len; simpa using this
  rw [hx] at h1
  have hr := h1.rep (left env x).length (.tup cs) (a.eval x) (by simp) (by rw [hl]; simp)
  generalize hv : a.eval x = v at *
  cases hr with
  | tup hlen hcr =>
    rename_i vs
    have hci := hcr i c hc
    have hilt : i < vs.size := by rw [hlen]; exact (List.getElem?_eq_some_iff.1 hc).1
    have hrun : (execOp a.eval o).run P w = .ok (.value (vs.getD i undef)) w := by
      simp [execOp, ho, hv, Instr.extract, hilt]
    -- the part goes over into the hand, the tuple is let go
    have hn : (left env x).length = a.tmps.toList.length := hl
    obtain ⟨g2, h2, e2⟩ : ∃ g2, Sim X g2 w (left env x ++ [c]) (a.tmps.toList ++ [vs.getD i undef]) sto ∧ Ext g1 w g2 w := by
      refine ⟨_, h1.re (fun ℓ => match ℓ with
          | .env t j => if t = (left env x).length ∧ j = i + 1 then .env (left env x).length 0 else .env t j
          | ℓ => ℓ) (fun _ => rfl) (by simp [hl]) ?_ ?_, .names _⟩
      · intro t d' u hd hu
        rcases getElem?_snoc hd with ⟨ht, hd⟩ | ⟨rfl, rfl⟩
        · rw [List.getElem?_append_left (hl ▸ ht)] at hu
          exact h1.rep t d' u (by rw [List.getElem?_append_left ht]; exact hd) (by rw [List.getElem?_append_left (hl ▸ ht)]; exact hu)
        · rw [hl] at hu; simp at hu; subst hu; rw [← Array.getD_eq_getD_getElem?]; exact hci
      · intro ℓ md ty l aa len cap hoc hmd
        cases ℓ with
        | env t j =>
          by_cases ht : t < (left env x).length
          · refine ⟨.env t j, by simp [Nat.ne_of_lt ht], hoc.shift ?_ ?_⟩
            · rw [List.getElem?_append_left ht, List.getElem?_append_left ht]
            · rw [List.getElem?_append_left (hl ▸ ht), List.getElem?_append_left (hl ▸ ht)]
          · have ht : t = (left env x).length := by have := hoc.lt; simp at this; omega
            subst ht
            generalize hℓ : Loc.env (left env x).length j = ℓ at hoc
            generalize hxx : D.sl md ty l = xx at hoc
            generalize hyy : Value.slice (some aa) len cap = yy at hoc
            cases hoc with
            | leaf hd hv' =>
              cases hℓ
              simp at hd; rw [hl] at hv'; simp at hv'
              subst hd; subst hxx; subst hv'
              refine ⟨.env (left env x).length (i + 1), by simp, ?_⟩
              exact .tup (cs := cs) (vs := vs) (by simp) (by rw [hl]; simp) hc (Array.getD_eq_getD_getElem? ..)
            | agg hd hv' hj' he =>
              cases hℓ; simp at hd; subst hd
              rcases hlf with hlf | hlf
              · have := free1_get hlf hj'; subst hxx; rw [(keeps_free1 hmd).1] at this; cases this
              · cases hlf
            | tup hd hv' hj' he =>
              cases hℓ; simp at hd; subst hd
              rcases hlf with hlf | hlf
              · have := free1_get hlf hj'; subst hxx; rw [(keeps_free1 hmd).1] at this; cases this
              · cases hlf
            | cell => cases hℓ
        | obj i => exact hoc.not_obj.elim
        | cell i' j => exact ⟨.cell i' j, rfl, hoc.of_slot (fun _ _ h => by cases h)⟩
    obtain ⟨g3, h3, e3, _⟩ := h2.lay o.dst
    exact ⟨_, w, g3, _, _, .inl hrun, hk, h3, e1.trans (e2.trans e3)⟩

theorem op_makeFunc {f : FuncId} {caps : Array Operand} (ho : o.op = .makeFunc (.func f) #[] caps) (hs : Sim X g w env a.tmps.toList sto)
    (hk : k ⟨put env o.dst (.fn f (caps.toList.map fun x => (rd env x).dup)), sto⟩ = some r) : OpOk P X o a w g k r := by
  refine opOk_pure hs (.func (.func f) #[] (caps.map a.eval)) _ (by simp [execOp, ho, Instr.makeFunc]) (.fn (by simp) (fun j c hj => ?_)) rfl hk
  simp only [List.getElem?_map, Option.map_eq_some_iff] at hj
  obtain ⟨y, hy, rfl⟩ := hj
  have hy' : caps[j]? = some y := by simpa using hy
  have := (hs.read y).dup
  have e : (caps.map a.eval).getD j undef = a.eval y := by
    simp only [Array.getD_eq_getD_getElem?, Array.getElem?_map, hy']; rfl
  rw [e]; exact this

end
end Go.Ev

/-! Conversions; structs and slices that are written out. -/
namespace Go.Ev
section
variable {P : Program} {X : Cfg} {R : Type} {w : World}
variable {g : Gh} {env : List D} {sto : Sto} {o : Oper} {a : Act} {k : St → Option R} {r : R} {cx : Cx}

theorem foldl_bytes : ∀ (l : List UInt8) (s : ByteArray), (l.map fun b => (b.toNat : Int)).foldl (fun r n => r.push (UInt8.ofNat n.toNat)) s = ⟨(s.data.toList ++ l).toArray⟩
  | [], s => by simp
  | b :: l, s => by
    rw [List.map_cons, List.foldl_cons, foldl_bytes l]
    have e : UInt8.ofNat ((b.toNat : Int)).toNat = b := by simp
    rw [e]
    apply ByteArray.ext
    simp [ByteArray.data_push]

theorem rep_bytes {φ G} {m : Md} {l : List UInt8} {ao : Option Addr} {cap : Nat} (h : RepV X φ G w (.sl m .byte l) (.slice ao l.length cap)) :
    (Conv.bytesToString (.slice ao l.length cap)).run P w = .ok (.string ⟨l.toArray⟩) w := by
  rcases rep_slice_inv h with ⟨e0, e1, _, e2, _⟩ | ⟨e0, ⟨p, e1⟩, _, _⟩ | ⟨b, off, vs, e1, _, hlen, _, hmax, hp, hc, hr⟩
  · subst e0; subst e1; rfl
  · subst e0; subst e1
    have hload : (loadCells p 0).run P w = .ok (([] : List Int).map (Value.int .u8)).toArray w := by
      have := run_loadCells_list (P := P) w p [] (fun j v hv => by simp at hv)
      simpa using this
    have := run_bytesToString (P := P) w p 0 cap [] hload
    exact this
  · subst e1
    have hcell : ∀ j x, l[j]? = some x → w.cell? ⟨b, off + j, none⟩ = some (.int .u8 (x.toNat : Int)) := fun j x hj => by
      have hjl := (List.getElem?_eq_some_iff.1 hj).1
      have := hr j x hj 0 _ rfl
      simp only [Ty.size, Nat.mul_one, Nat.add_zero] at this
      rw [hc j (by simpa [Ty.size] using hjl), (rep_int this).1]
    have hload : (loadCells ⟨b, off, none⟩ l.length).run P w = .ok ((l.map fun x => (x.toNat : Int)).map (Value.int .u8)).toArray w := by
      have := run_loadCells_list (P := P) w ⟨b, off, none⟩ ((l.map fun x => (x.toNat : Int)).map (Value.int .u8)) (fun j v hv => by
        simp only [List.getElem?_map, Option.map_eq_some_iff] at hv
        obtain ⟨y, ⟨x, hx, rfl⟩, rfl⟩ := hv
        rw [Addr.add_mid]; exact hcell j x hx)
      simpa using this
    have := run_bytesToString (P := P) w ⟨b, off, none⟩ l.length cap (l.map fun x => (x.toNat : Int)) hload
    rw [foldl_bytes] at this
    simpa using this

theorem op_convInt (hcx : CxOk P X cx) {src dst : TypeId} {x : Operand} (ho : o.op = .convert src dst x) (hs : Sim X g w env a.tmps.toList sto) {ts td : TE} {kd : IntKind} {kx : IntKind} {n : Int}
    (h1 : look cx.tab src = some ts) (h2 : look cx.tab dst = some td) (hd : td.d = .int kd) (hx : rd env x = .int kx n) (hk : k ⟨put env o.dst (.int kd (kd.wrap n)), sto⟩ = some r) : OpOk P X o a w g k r := by
  obtain ⟨d1, hd1, _⟩ := desc_int hcx h1
  have hd2 := desc_kind hcx h2 hd
  obtain ⟨hv, _⟩ := rep_int (hx ▸ hs.read x)
  refine opOk_pure hs (.int kd (kd.wrap n)) _ ?_ (.int (InR_wrap _ _)) rfl hk
  simp [execOp, ho, hv, convert, run_underlying hd1, run_underlying hd2, Conv.intToInt]

theorem op_convStr (hcx : CxOk P X cx) {src dst : TypeId} {x : Operand} (ho : o.op = .convert src dst x) (hs : Sim X g w env a.tmps.toList sto) {ts td : TE} {s : List UInt8}
    (h1 : look cx.tab src = some ts) (h2 : look cx.tab dst = some td) (hd : td.d = .str) (hx : rd env x = .str s) (hk : k ⟨put env o.dst (.str s), sto⟩ = some r) : OpOk P X o a w g k r := by
  obtain ⟨d1, hd1, _⟩ := desc_int hcx h1
  have hd2 := desc_str hcx h2 hd
  have hr := hx ▸ hs.read x
  obtain ⟨hv, _⟩ := rep_str hr
  rw [hv] at hr
  refine opOk_pure hs (.string ⟨s.toArray⟩) _ ?_ hr rfl hk
  simp [execOp, ho, hv, convert, run_underlying hd1, run_underlying hd2]

theorem op_convBytes (hcx : CxOk P X cx) {src dst e : TypeId} {x : Operand} (ho : o.op = .convert src dst x) (hs : Sim X g w env a.tmps.toList sto) {ts td te : TE} {l : List UInt8}
    (h1 : look cx.tab src = some ts) (hsd : ts.d = .slice e) (h2 : look cx.tab dst = some td) (hd : td.d = .str) (h3 : look cx.tab e = some te) (hed : te.d = .int .u8)
    (hx : (∃ m, rd env x = .sl m .byte l) ∨ (rd env x = .nils ∧ l = [])) (hk : k ⟨put env o.dst (.str l), sto⟩ = some r) : OpOk P X o a w g k r := by
  have hu1 := desc_slice hcx h1 hsd
  have hu2 := desc_str hcx h2 hd
  have hu3 := desc_kind hcx h3 hed
  have hr := hs.read x
  generalize hv : a.eval x = v at hr
  have fin : ∀ ao len cap, v = .slice ao len cap → (Conv.bytesToString (.slice ao len cap)).run P w = .ok (.string ⟨l.toArray⟩) w → l.length ≤ 9223372036854775807 → OpOk P X o a w g k r := by
    intro ao len cap hv2 hrun hle
    refine opOk_pure hs (.string ⟨l.toArray⟩) _ ?_ (.str ⟨l.toArray⟩ hle) rfl hk
    rw [hv2] at hv
    have := run_convert_bytes_string (P := P) w src dst e ao len cap hu1 hu3 hu2
    simp [execOp, ho, hv, this, hrun]
  rcases hx with ⟨m, hx⟩ | ⟨hx, rfl⟩
  · rw [hx] at hr
    obtain ⟨ao, cap, rfl⟩ := rep_slice_form hr
    refine fin ao _ cap rfl (rep_bytes hr) ?_
    rcases rep_slice_inv hr with ⟨e0, _⟩ | ⟨e0, _⟩ | ⟨b, off, vs, _, _, hlen, _, hmax, _⟩
    · subst e0; simp
    · subst e0; simp
    · omega
  · rw [hx] at hr; cases hr
    exact fin none 0 0 rfl rfl (by simp)

theorem op_convToBytes (hcx : CxOk P X cx) {src dst e : TypeId} {x : Operand} (ho : o.op = .convert src dst x) (hs : Sim X g w env a.tmps.toList sto) {ts td te : TE} {s : List UInt8}
    (h1 : look cx.tab src = some ts) (h2 : look cx.tab dst = some td) (hd : td.d = .slice e) (h3 : look cx.tab e = some te) (hed : te.d = .int .u8)
    (hx : rd env x = .str s) (hk : k ⟨put env o.dst (.sl .own .byte s), sto⟩ = some r) : OpOk P X o a w g k r := by
  obtain ⟨d1, hd1, _⟩ := desc_int hcx h1
  have hu2 := desc_slice hcx h2 hd
  have hu3 := desc_kind hcx h3 hed
  obtain ⟨hv, hle⟩ := rep_str (hx ▸ hs.read x)
  have hrun := Lib.run_convert_string_bytes (P := P) w src dst e ⟨s.toArray⟩ hd1 hu2 hu3
  have hsz : (⟨s.toArray⟩ : ByteArray).size = s.length := rfl
  rw [hsz] at hrun
  have hge := grownCap_ge w s.length 0 e
  have hcm : grownCap w s.length 0 e ≤ maxLen := grownCap_le_maxLen w s.length 0 e (by unfold maxLen; omega)
  -- the world of the conversion is the one of a new block whose mark lies behind its cells
  have hC : (Lib.bytesCells w e ⟨s.toArray⟩).size = grownCap w s.length 0 e := by
    simp [Lib.bytesCells, hsz]; omega
  obtain ⟨g', h4, e4⟩ := hs.newOwn (t := .byte) (l := s) (Lib.bytesCells w e ⟨s.toArray⟩) e ((Lib.bytesCells w e ⟨s.toArray⟩).size, (Lib.bytesCells w e ⟨s.toArray⟩).size + 1) (grownCap w s.length 0 e)
    (fun j => .int .u8 ((s.getD j 0).toNat : Int))
    (fun j hj => by
      have hj2 : j < s.length := by simpa [Ty.size] using hj
      simp [Lib.bytesCells, Array.getElem?_append, hj2, List.getD])
    (fun i x hx j c hc => by
      cases j with
      | zero =>
        simp [cells] at hc; subst hc
        have : s.getD (i * Ty.byte.size + 0) 0 = x := by simp [Ty.size, List.getD, hx]
        rw [this]
        have := x.toNat_lt
        exact .int (by simp only [InR, lo, hi]; omega)
      | succ j => simp [cells] at hc)
    hge (by unfold maxLen at hcm; exact hcm) (by simp [Ty.size, hC]) (.inr (Nat.le_refl _))
  have halike : Alike (w.alloc (.cells (Lib.bytesCells w e ⟨s.toArray⟩) e ((Lib.bytesCells w e ⟨s.toArray⟩).size, (Lib.bytesCells w e ⟨s.toArray⟩).size + 1))) (Lib.bytesWorld w e ⟨s.toArray⟩) := by
    refine ⟨?_, rfl, rfl, rfl⟩
    apply Array.ext'
    apply List.ext_getElem?
    intro j
    rw [Array.getElem?_toList, Array.getElem?_toList]
    rcases Nat.lt_trichotomy j w.heap.size with hj | hj | hj
    · rw [Lib.bytesWorld_at_old w e _ j hj]
      show _ = (w.heap.push _)[j]?
      rw [Array.getElem?_push, if_neg (Nat.ne_of_lt hj)]
    · subst hj
      rw [Lib.bytesWorld_at_new]
      show _ = (w.heap.push _)[w.heap.size]?
      rw [Array.getElem?_push, if_pos rfl]
    · rw [Array.getElem?_eq_none (by rw [Lib.bytesWorld_size]; omega), Array.getElem?_eq_none (by simp; omega)]
  obtain ⟨g2, h5, e5, _⟩ := (h4.alike halike).lay o.dst
  refine ⟨_, _, g2, _, _, .inl ?_, hk, h5, e4.trans ((Ext.alike g' halike).trans e5)⟩
  simp [execOp, ho, hv, hrun]

theorem freeze_cell (w : World) (p : Addr) (n : Nat) (q : Addr) : (w.freeze p n).cell? q = w.cell? q := by
  unfold World.freeze
  split
  · rfl
  · simp only [World.cell?, Array.getElem?_modify]
    by_cases h : p.block = q.block
    · rw [if_pos h]
      cases hh : w.heap[q.block]? with
      | none => rfl
      | some x => cases x <;> rfl
    · rw [if_neg h]

theorem freeze_heap (w : World) (p : Addr) (n k : Nat) (h : k ≠ p.block) : (w.freeze p n).heap[k]? = w.heap[k]? := by
  unfold World.freeze
  split
  · rfl
  · simp only [Array.getElem?_modify]
    rw [if_neg (fun e => h e.symm)]

theorem freeze_size (w : World) (p : Addr) (n : Nat) : (w.freeze p n).heap.size = w.heap.size := by
  unfold World.freeze
  split <;> simp

theorem freeze_str (w : World) (p : Addr) (n : Nat) : (w.freeze p n).os = w.os ∧ (w.freeze p n).tape = w.tape ∧ (w.freeze p n).output = w.output := by
  unfold World.freeze
  split <;> exact ⟨rfl, rfl, rfl⟩

/-- A constant text turned into bytes: only a mark is set behind the cells. -/
theorem op_convMark (hcx : CxOk P X cx) {src e : TypeId} {x : Operand} (ho : o.op = .convert src src x) (hs : Sim X g w env a.tmps.toList sto) {ts te : TE} {l : List UInt8} (hl0 : l ≠ [])
    (h1 : look cx.tab src = some ts) (hsd : ts.d = .slice e) (h3 : look cx.tab e = some te) (hed : te.d = .int .u8)
    (hx : rd env x = .sl .own .byte l) (hk : k ⟨put (left env x) o.dst (.sl .ro .byte l), sto⟩ = some r) : OpOk P X o a w g k r := by
  have hu1 := desc_slice hcx h1 hsd
  have hu3 := desc_kind hcx h3 hed
  obtain ⟨g1, h2, e1, _⟩ := hs.take x
  have hl : (left env x).length = a.tmps.toList.length := by have := h2.len; simpa using this
  rw [hx] at h2
  have hr := h2.rep (left env x).length (.sl .own .byte l) (a.eval x) (by simp) (by rw [hl]; simp)
  generalize hv : a.eval x = v at *
  obtain ⟨ao, cap, rfl⟩ := rep_slice_form hr
  rcases rep_slice_inv hr with ⟨e0, _⟩ | ⟨e0, _⟩ | ⟨b, off, vs, e2, _, hlen, _, hmax, hp, hc, _⟩
  · exact absurd e0 hl0
  · exact absurd e0 hl0
  subst e2
  obtain ⟨kk, _, _⟩ := h2.own (.env (left env x).length 0) .own .byte l ⟨b, off, none⟩ l.length cap (.leaf (by simp) (by rw [hl]; simp)) (.inl rfl)
  simp only at kk
  have hst : Stale g1 (left env x).length b := .inr ⟨_, _, kk, Nat.le_refl _⟩
  have hshape : ∃ e' n, w.shape? b = some (e', n) := by
    have hpos : 0 < l.length * Ty.byte.size := by simp [Ty.size]; exact List.length_pos_iff.2 hl0
    have := hc 0 hpos
    unfold World.cell? at this
    unfold World.shape?
    cases hh : w.heap[b]? with
    | none => rw [hh] at this; cases this
    | some ob => rw [hh] at this; cases ob <;> first | exact ⟨_, _, rfl⟩ | cases this
  obtain ⟨e', n, hsh⟩ := hshape
  have hrun : (execOp a.eval o).run P w = .ok (.value (.slice (some ⟨b, off, none⟩) l.length cap)) (w.freeze ⟨b, n, none⟩ 1) := by
    simp [execOp, ho, hv, convert, run_underlying hu1, run_underlying hu3, markStringish, hsh]
  have hstr := freeze_str w ⟨b, n, none⟩ 1
  have hfz : ∀ b' o', b' ≠ b → (w.freeze ⟨b, n, none⟩ 1).frozen? ⟨b', o', none⟩ = w.frozen? ⟨b', o', none⟩ := fun b' o' hb => by
    unfold World.frozen?; rw [freeze_heap w ⟨b, n, none⟩ 1 b' hb]
  have h4 := h2.drop.evolveX (w' := w.freeze ⟨b, n, none⟩ 1) (G' := g1.G) b hst (fun _ => Nat.le_refl _) (fun _ _ _ _ => rfl) (fun _ _ _ => freeze_cell ..)
    (fun b' ℓ hb _ o' => ⟨freeze_cell .., hfz b' o' hb⟩) (by rw [freeze_size]; exact Nat.le_refl _) (fun b' hb => by rw [freeze_size] at hb; exact h2.gdom b' hb)
  have hr2 : RepV X g1.φ g1.G (w.freeze ⟨b, n, none⟩ 1) (.sl .ro .byte l) (.slice (some ⟨b, off, none⟩) l.length cap) :=
    RepV.mono (w := w) (fun _ _ h => h) (fun _ => Nat.le_refl _) (fun _ _ _ => freeze_cell ..) hr.dup1
  have h5 := h4.put o.dst _ _ hr2 rfl
  refine ⟨_, _, _, _, _, .inl hrun, hk, h5, e1.trans ⟨by rw [freeze_size]; exact Nat.le_refl _, hstr.1, hstr.2.1, hstr.2.2, ?_, fun _ _ _ => freeze_cell .., fun _ => Nat.le_refl _, fun _ _ _ => rfl, fun _ _ h => h, fun _ _ h => h⟩⟩
  intro b' _ hn
  exact freeze_heap w ⟨b, n, none⟩ 1 b' (by intro e; subst e; rw [kk] at hn; cases hn)

end
end Go.Ev

/-! Slices that are written out. -/
namespace Go.Ev
section
variable {P : Program} {X : Cfg} {R : Type} {w : World}
variable {g : Gh} {env : List D} {sto : Sto} {o : Oper} {a : Act} {k : St → Option R} {r : R} {cx : Cx}

/-- What decoding a code shows: the cells are those of the value. -/
def DecOk (X : Cfg) (φ : List Nat) (G : Nat → Nat) (w : World) (t : Ty) (ds : List D) (x : t.den) (r : List D) : Prop :=
  r = ds.drop t.size ∧ t.size ≤ ds.length ∧
    ∀ vs : Nat → Value, (∀ (j : Nat) c, j < t.size → ds[j]? = some c → RepV X φ G w c (vs j)) → ∀ (j : Nat) c, (cells t x)[j]? = some c → RepV X φ G w c (vs j)

theorem decOk_leaf {φ G} {t : Ty} {x : t.den} {c c' : D} {r : List D} (hs : t.size = 1) (hc : cells t x = [c']) (h : ∀ v, RepV X φ G w c v → RepV X φ G w c' v) : DecOk X φ G w t (c :: r) x r := by
  refine ⟨by rw [hs]; rfl, by rw [hs]; simp, fun vs hv j c0 hj => ?_⟩
  rw [hc] at hj
  cases j with
  | zero => simp at hj; subst hj; exact h _ (hv 0 c (by omega) rfl)
  | succ j => simp at hj

theorem rep_ro {φ G} {m : Md} {t : Ty} {l : List t.den} {v : Value} (h : RepV X φ G w (.sl m t l) v) : RepV X φ G w (.sl .ro t l) v := by
  obtain ⟨a, cap, rfl⟩ := rep_slice_form h
  rcases rep_slice_inv h with ⟨rfl, rfl, _, rfl, _⟩ | ⟨rfl, ⟨p, rfl⟩, _, hm, hcap, hmax⟩ | ⟨b, off, vs, rfl, _, hlen, _, hmax, hp, hc, hr⟩
  · exact .slNil (by decide)
  · exact .slE (by decide) (by rintro (h | h) <;> cases h) hmax
  · exact .sl vs hlen (by intro h; cases h) hmax hp hc hr

theorem decSl_sound {φ G} {t : Ty} {ds : List D} {x : List t.den} {r : List D} (h : decSl t ds = some (x, r)) : ∃ c, ds = c :: r ∧ ∀ v, RepV X φ G w c v → RepV X φ G w (.sl .ro t x) v := by
  unfold decSl at h
  split at h
  · split at h
    · rename_i hcast
      cases h
      obtain ⟨e, hcast⟩ := castL_some hcast
      subst e; subst hcast
      exact ⟨_, rfl, fun v hv => rep_ro hv⟩
    · cases h
  · cases h
    exact ⟨_, rfl, fun v hv => by cases hv; exact .slNil (by decide)⟩
  · cases h

theorem decP_sound {φ : List Nat} {G : Nat → Nat} : ∀ (t : Ty) (ds : List D) (x : t.den) (r : List D), decP t ds = some (x, r) → DecOk X φ G w t ds x r := by
  intro t
  induction t with
  | int k =>
    intro ds x r h
    change decInt k ds = some (x, r) at h
    unfold decInt at h
    split at h
    · split at h
      · rename_i e; subst e; cases h; exact decOk_leaf rfl rfl (fun _ h => h)
      · cases h
    · cases h
  | byte =>
    intro ds x r h
    change decByte ds = some (x, r) at h
    unfold decByte at h
    split at h
    · rename_i n r0
      cases h
      refine decOk_leaf rfl rfl (fun v h => ?_)
      obtain ⟨rfl, hn⟩ := rep_int h
      have e : (((UInt8.ofNat n.toNat).toNat : Nat) : Int) = n := by
        simp only [InR, lo, hi] at hn
        rw [UInt8.toNat_ofNat']
        have : n.toNat % 2 ^ 8 = n.toNat := Nat.mod_eq_of_lt (by omega)
        rw [this]; omega
      rw [e]; exact h
    · cases h
  | bool =>
    intro ds x r h
    change decBool ds = some (x, r) at h
    unfold decBool at h
    split at h
    · cases h; exact decOk_leaf rfl rfl (fun _ h => h)
    · cases h
  | str =>
    intro ds x r h
    change decStr ds = some (x, r) at h
    unfold decStr at h
    split at h
    · cases h; exact decOk_leaf rfl rfl (fun _ h => h)
    · cases h
  | err =>
    intro ds x r h
    change decErr ds = some (x, r) at h
    unfold decErr at h
    split at h
    · cases h; exact decOk_leaf rfl rfl (fun _ h => h)
    · cases h
  | slice t =>
    intro ds x r h
    change decSl t ds = some (x, r) at h
    obtain ⟨c, rfl, hc⟩ := decSl_sound (X := X) (φ := φ) (G := G) (w := w) h
    exact decOk_leaf rfl rfl hc
  | unit =>
    intro ds x r h
    change some ((), ds) = some (x, r) at h
    cases h
    exact ⟨rfl, Nat.zero_le _, fun vs _ j c hj => by simp [cells] at hj⟩
  | pair a b iha ihb =>
    intro ds x r h
    have h' : (match decP a ds with
      | some (x, r') => (match decP b r' with
        | some (y, r'') => some ((x, y), r'')
        | none => none)
      | none => none : Option ((a.den × b.den) × List D)) = some (x, r) := h
    split at h'
    · rename_i x1 r1 h1
      split at h'
      · rename_i y1 r2 h2
        cases h'
        obtain ⟨rfl, hl1, hr1⟩ := iha _ _ _ h1
        obtain ⟨rfl, hl2, hr2⟩ := ihb _ _ _ h2
        rw [List.length_drop] at hl2
        refine ⟨by rw [List.drop_drop]; rfl, by simp only [Ty.size]; omega, fun vs hv j c hj => ?_⟩
        have hca := cells_length a x1
        simp only [cells] at hj
        by_cases hja : j < a.size
        · rw [List.getElem?_append_left (by omega)] at hj
          exact hr1 vs (fun j c hj2 hd => hv j c (by simp only [Ty.size]; omega) hd) j c hj
        · rw [List.getElem?_append_right (by omega), hca] at hj
          have := hr2 (fun j => vs (a.size + j)) (fun j c hj2 hd => hv (a.size + j) c (by simp only [Ty.size]; omega) (by rw [List.getElem?_drop] at hd; exact hd)) _ c hj
          rw [show a.size + (j - a.size) = j by omega] at this
          exact this
      · cases h'
    · cases h'
  | ex =>
    intro ds x r h
    change decEx ds = some (x, r) at h
    unfold decEx at h
    split at h
    · split at h
      · rename_i hsl
        cases h
        obtain ⟨c, rfl, hc⟩ := decSl_sound (X := X) (φ := φ) (G := G) (w := w) hsl
        refine ⟨rfl, by simp [Ty.size], fun vs hv j c0 hj => ?_⟩
        simp only [Ty.size] at hv
        match j, hj with
        | 0, hj => simp [cells] at hj; subst hj; exact hv 0 _ (by omega) rfl
        | 1, hj => simp [cells] at hj; subst hj; exact hv 1 _ (by omega) rfl
        | 2, hj => simp [cells] at hj; subst hj; exact hv 2 _ (by omega) rfl
        | 3, hj => simp [cells] at hj; subst hj; exact hv 3 _ (by omega) rfl
        | 4, hj => simp [cells] at hj; subst hj; exact hv 4 _ (by omega) rfl
        | 5, hj => simp [cells] at hj; subst hj; exact hv 5 _ (by omega) rfl
        | 6, hj => simp [cells] at hj; subst hj; exact hv 6 _ (by omega) rfl
        | 7, hj => simp [cells] at hj; subst hj; exact hc _ (hv 7 _ (by omega) rfl)
        | 8, hj => simp [cells] at hj; subst hj; exact hv 8 _ (by omega) rfl
        | 9, hj => simp [cells] at hj; subst hj; exact hv 9 _ (by omega) rfl
        | j + 10, hj => simp [cells] at hj
      · cases h
    · cases h

theorem decRow_sound {t : Ty} : ∀ {cs : List (List D)} {l : List t.den}, decRow t cs = some l → l.length = cs.length ∧ ∀ (i : Nat) x, l[i]? = some x → ∃ c, cs[i]? = some c ∧ decP t c = some (x, [])
  | [], l, h => by cases h; exact ⟨rfl, fun i x hx => by simp at hx⟩
  | c :: r, l, h => by
    unfold decRow at h
    split at h
    · rename_i x hx
      split at h
      · rename_i l' hl'
        cases h
        obtain ⟨h1, h2⟩ := decRow_sound hl'
        refine ⟨by simp [h1], fun i y hy => ?_⟩
        cases i with
        | zero => simp at hy; subst hy; exact ⟨c, rfl, hx⟩
        | succ i => simp at hy; simpa using h2 i y hy
      · cases h
    · cases h

theorem foldl_set (off : Nat) : ∀ (l : List (Value × Nat)) (V : Array Value), (l.foldl (fun cs (cj : Value × Nat) => cs.setIfInBounds (off + cj.2) cj.1) V).size = V.size
  | [], V => rfl
  | x :: l, V => by rw [List.foldl_cons, foldl_set off l]; simp

theorem foldl_set_get (off : Nat) : ∀ (xs : List Value) (n : Nat) (V : Array Value) (k : Nat), off + n + xs.length ≤ V.size →
    ((xs.zipIdx n).foldl (fun cs (cj : Value × Nat) => cs.setIfInBounds (off + cj.2) cj.1) V)[k]? = if off + n ≤ k ∧ k < off + n + xs.length then xs[k - (off + n)]? else V[k]?
  | [], n, V, k, h => by
    simp
    intro h1 h2; omega
  | x :: xs, n, V, k, h => by
    rw [List.zipIdx_cons, List.foldl_cons, foldl_set_get off xs (n + 1) _ k (by simp at h ⊢; omega)]
    simp only [List.length_cons] at h ⊢
    by_cases h1 : off + (n + 1) ≤ k ∧ k < off + (n + 1) + xs.length
    · rw [if_pos h1, if_pos (by omega)]
      rw [show k - (off + n) = (k - (off + (n + 1))) + 1 by omega]; simp
    · rw [if_neg h1]
      by_cases h2 : k = off + n
      · subst h2
        rw [if_pos (by omega), Array.getElem?_setIfInBounds_self_of_lt (by omega)]
        simp
      · rw [if_neg (by omega), Array.getElem?_setIfInBounds_ne (by omega)]

theorem fill_one {place : Nat → Option (Nat × Nat)} {V : Array Value} {i off size : Nat} {v : Value} {rest : List (Nat × Value)} (hp : place i = some (off, size)) (hs : v.cells.size = size) (hle : off + size ≤ V.size) :
    ∃ V', Instr.fill place V ((i, v) :: rest) = Instr.fill place V' rest ∧ V'.size = V.size ∧ ∀ k, V'[k]? = if off ≤ k ∧ k < off + size then v.cells[k - off]? else V[k]? := by
  refine ⟨v.cells.zipIdx.foldl (fun cs (c, j) => cs.setIfInBounds (off + j) c) V, ?_, ?_, ?_⟩
  · rw [Instr.fill]
    simp only [hp]
    have h2 : ¬ (off + size > V.size) := by omega
    simp [hs, h2]
  · rw [← Array.foldl_toList]
    exact foldl_set off _ V
  · intro k
    have e : (v.cells.zipIdx).toList = v.cells.toList.zipIdx 0 := by simp
    rw [← Array.foldl_toList, e]
    have := foldl_set_get off v.cells.toList 0 V k (by simpa [hs] using hle)
    simp only [Nat.add_zero, Array.length_toList, hs, Array.getElem?_toList] at this
    exact this

end
end Go.Ev

namespace Go.Ev
section
variable {P : Program} {X : Cfg} {R : Type} {w : World}
variable {g : Gh} {env : List D} {sto : Sto} {o : Oper} {a : Act} {k : St → Option R} {r : R} {cx : Cx}

/-- Rows of cells, element by element, in one array. -/
structure Elems (X : Cfg) (g : Gh) (w : World) (sz : Nat) (cs : List (List D)) (V : Array Value) : Prop where
  size : V.size = cs.length * sz
  rep : ∀ (i : Nat) c, cs[i]? = some c → c.length = sz ∧ ∀ (j : Nat) d, c[j]? = some d → ∃ u, V[i * sz + j]? = some u ∧ RepV X g.φ g.G w d u

theorem fillL_sound (hs : Sim X g w env a.tmps.toList sto) {sz : Nat} {place : Nat → Option (Nat × Nat)} (hp : ∀ i, place i = some (i * sz, sz)) :
    ∀ (parts : List (Nat × Operand)) (cs cs' : List (List D)) (V : Array Value), fillL sz env parts cs = some cs' → Elems X g w sz cs V →
      ∃ V', Instr.fill place V (parts.map fun p => (p.1, a.eval p.2)) = some V' ∧ Elems X g w sz cs' V' ∧ cs'.length = cs.length
  | [], cs, cs', V, h, hV => by
    cases h; exact ⟨V, rfl, hV, rfl⟩
  | (i, x) :: rest, cs, cs', V, h, hV => by
    unfold fillL at h
    simp only at h
    split at h
    · rename_i h1 h2
      obtain ⟨hl, hlv, h1s⟩ := fits_spec h1
      have hi : i < cs.length := Nat.le_of_ble_eq_true h2
      have hne : (rd env x).cells ≠ [] := by intro e; rw [e] at hl; simp at hl; omega
      obtain ⟨hvs, hvr⟩ := cells_rep (hs.read x) hne
      rw [hl] at hvs
      have hmul : i * sz + sz ≤ cs.length * sz := by rw [← Nat.succ_mul]; exact Nat.mul_le_mul_right _ hi
      obtain ⟨V1, hf, hsz, hget⟩ := fill_one (V := V) (rest := rest.map fun p => (p.1, a.eval p.2)) (hp i) hvs (by rw [hV.size]; exact hmul)
      have hV1 : Elems X g w sz (cs.set i (rd env x).cells) V1 := by
        refine ⟨by rw [hsz, hV.size]; simp, fun i' c hc => ?_⟩
        rcases get_set_eq hc with ⟨rfl, _, rfl⟩ | ⟨hne, hc⟩
        · refine ⟨hl, fun j d hj => ?_⟩
          obtain ⟨u, hu, hr⟩ := hvr j d hj
          have hjs : j < sz := hl ▸ (List.getElem?_eq_some_iff.1 hj).1
          refine ⟨u, ?_, hr⟩
          rw [hget, if_pos ⟨by omega, by omega⟩, show i * sz + j - i * sz = j by omega]
          exact hu
        · obtain ⟨hcl, hcr⟩ := hV.rep i' c hc
          refine ⟨hcl, fun j d hj => ?_⟩
          obtain ⟨u, hu, hr⟩ := hcr j d hj
          have hjs : j < sz := hcl ▸ (List.getElem?_eq_some_iff.1 hj).1
          refine ⟨u, ?_, hr⟩
          rw [hget, if_neg, hu]
          rintro ⟨h3, h4⟩
          rcases Nat.lt_or_gt_of_ne hne with h5 | h5
          · have : (i + 1) * sz ≤ i' * sz := Nat.mul_le_mul_right _ h5
            rw [Nat.succ_mul] at this; omega
          · have : (i' + 1) * sz ≤ i * sz := Nat.mul_le_mul_right _ h5
            rw [Nat.succ_mul] at this; omega
      obtain ⟨V', h3, h4, h5⟩ := fillL_sound hs hp rest _ cs' V1 h hV1
      exact ⟨V', by rw [List.map_cons, hf]; exact h3, h4, by rw [h5]; simp⟩
    · cases h

theorem zeros_elems {te : TE} {e : TypeId} (hte : TEok P e te) {i : TypeInfo} {z : Value} (hz : zeroL te.zero z.cells.toList = true) (h1 : 1 ≤ te.size) (n : Nat) :
    Elems X g w te.size (List.replicate n te.zero) ((Array.range (n * te.size)).map (z.cells[· % z.cells.size]!)) := by
  obtain ⟨hl, hg⟩ := zeroL_spec hz
  rw [hte.zlen] at hl
  have hzs : z.cells.size = te.size := by simpa using hl
  refine ⟨by simp, fun i' c hc => ?_⟩
  have hi : i' < n := by have := (List.getElem?_eq_some_iff.1 hc).1; simpa using this
  have : c = te.zero := by
    rw [List.getElem?_replicate, if_pos hi] at hc; exact (Option.some.inj hc).symm
  subst this
  refine ⟨hte.zlen, fun j d hj => ?_⟩
  obtain ⟨u, hu, hz1⟩ := hg j d hj
  have hjs : j < te.size := hte.zlen ▸ (List.getElem?_eq_some_iff.1 hj).1
  have hidx : i' * te.size + j < n * te.size := cell_idx hi hjs
  refine ⟨u, ?_, (zero1_spec hz1).1⟩
  rw [Array.getElem?_map]
  simp only [Array.getElem?_range, hidx, if_true, Option.map_some]
  congr 1
  rw [hzs, Nat.mul_comm, Nat.mul_add_mod, Nat.mod_eq_of_lt hjs]
  have hu' : z.cells[j]? = some u := by simpa using hu
  rw [getElem!_pos _ _ (by rw [hzs]; exact hjs)]
  exact (Array.getElem?_eq_some_iff.1 hu').2

theorem run_buildSlice {t e : TypeId} {len : Nat} {i : TypeInfo} {z : Value} (hu : P.underlying t = some (.slice e)) (hi : P.info? e = some i) (hz : i.zero = some z) (hgt : ¬ (len * i.size > 2 ^ 24))
    {ps : Array (Nat × Value)} {V : Array Value} (hf : Instr.fill (fun k => some (k * i.size, i.size)) ((Array.range (len * i.size)).map (z.cells[· % z.cells.size]!)) ps.toList = some V) :
    (Instr.buildSlice t len ps).run P w = .ok (.slice (some ⟨w.heap.size, 0, none⟩) len len) (w.alloc (.cells V e)) := by
  unfold Instr.buildSlice
  by_cases h0 : len * i.size = 0
  · have e1 : ∀ q : Array Value, (Array.range (len * i.size)).map (fun k => q[k % q.size]!) = #[] := fun q => by rw [h0]; simp
    rw [e1] at hf
    simp only [Sem.run_bind, run_underlying hu, Result.andThen_ok, sizeOf, typeInfo, program, Sem.run, hi, Sem.run_pure, if_neg hgt, if_pos h0, e1, hf]
    rfl
  · simp only [Sem.run_bind, run_underlying hu, Result.andThen_ok, sizeOf, typeInfo, program, Sem.run, hi, Sem.run_pure, if_neg hgt, if_neg h0, run_zero hi hz, hf]
    rfl

theorem op_buildSlice (hcx : CxOk P X cx) {t e : TypeId} {len : Nat} {parts : Array (Nat × Operand)} (ho : o.op = .buildSlice t len parts) (hs : Sim X g w env a.tmps.toList sto) {ts te : TE} {ty : Ty} {cs : List (List D)} {l : List ty.den}
    (h1 : look cx.tab t = some ts) (hd : ts.d = .slice e) (h2 : look cx.tab e = some te) (hty : te.ty = some ty) (hf : fillL te.size env parts.toList (List.replicate len te.zero) = some cs) (hdec : decRow ty cs = some l)
    (hle : len * te.size ≤ 16777216) (hk : k ⟨put env o.dst (.sl .own ty l), sto⟩ = some r) : OpOk P X o a w g k r := by
  have hu := desc_slice hcx h1 hd
  have hte := hcx.tab _ _ h2
  obtain ⟨i, z, hi, hisz, hiby, hz, hzl⟩ := hte.info
  obtain ⟨hts, hta, h1s, h1b⟩ := hte.ty ty hty
  have hV0 := zeros_elems (P := P) (X := X) (g := g) (w := w) hte (i := i) hzl h1s len
  obtain ⟨V, hV, hel, hcl⟩ := fillL_sound (a := a) hs (place := fun i => some (i * te.size, te.size)) (fun _ => rfl) parts.toList _ cs _ hf hV0
  obtain ⟨hll, hlr⟩ := decRow_sound hdec
  have hcl2 : cs.length = len := by rw [hcl]; simp
  have hlen : l.length = len := hll.trans hcl2
  obtain ⟨g1, h3, e1⟩ := hs.newOwn (t := ty) (l := l) V e (0, 0) len (fun j => V.getD j undef)
    (fun j hj => by
      rw [hlen, hts, ← hcl2, ← hel.size] at hj
      simp [Array.getD, hj])
    (fun ii x hx j c hc => by
      obtain ⟨cc, hcc, hdp⟩ := hlr ii x hx
      obtain ⟨hccl, hccr⟩ := hel.rep ii cc hcc
      obtain ⟨_, _, hdr⟩ := decP_sound (X := X) (φ := g.φ) (G := g.G) (w := w) ty cc x [] hdp
      have := hdr (fun j => V.getD (ii * te.size + j) undef) (fun j d _ hj => by
        obtain ⟨u, hu, hr⟩ := hccr j d hj
        have : V.getD (ii * te.size + j) undef = u := by simp only [Array.getD_eq_getD_getElem?, hu]; rfl
        rw [this]; exact hr) j c hc
      rw [hts]; exact this)
    (by omega) (by have := Nat.le_mul_of_pos_right len h1s; omega) (by rw [hel.size, hcl2, hts]; exact Nat.le_refl _) (.inl (Nat.le_refl _))
  obtain ⟨g2, h4, e2, _⟩ := h3.lay o.dst
  refine ⟨_, _, g2, _, _, .inl ?_, hk, h4, e1.trans e2⟩
  rw [hlen]
  have hps : (parts.map fun p => (p.1, a.eval p.2)).toList = parts.toList.map fun p => (p.1, a.eval p.2) := by simp
  have hrun := run_buildSlice (P := P) (w := w) (len := len) hu hi hz (ps := parts.map fun p => (p.1, a.eval p.2)) (V := V) (by rw [hisz]; omega) (by rw [hisz, hps]; exact hV)
  simp only [execOp, ho, Sem.run_bind]
  have hrun' : (Instr.buildSlice t len (parts.map fun x => match x with | (i, x) => (i, a.eval x))).run P w = .ok (.slice (some ⟨w.heap.size, 0, none⟩) len len) (w.alloc (.cells V e)) := hrun
  rw [hrun']
  rfl

/-- Where the parts of slot n + 1 go: into the struct in slot n, from 'off' on. -/
def mergeL (n off : Nat) : Loc → Loc
  | .env t 0 => if t = n + 1 then .env n (off + 1) else .env t 0
  | .env t (j + 1) => if t = n + 1 then .env n (off + j + 1) else .env t (j + 1)
  | ℓ => ℓ

theorem mergeL_other {n off t j : Nat} (h : t ≠ n + 1) : mergeL n off (.env t j) = .env t j := by cases j <;> simp [mergeL, h]
theorem mergeL_cell {n off m j : Nat} (h : m = 0 ∧ j = 0 ∨ m = j + 1) : mergeL n off (.env (n + 1) m) = .env n (off + j + 1) := by
  rcases h with ⟨rfl, rfl⟩ | rfl <;> simp [mergeL]

theorem Sim.merge {g env vals sto} {cs : List D} {vs : Array Value} {d : D} {v : Value} (h : Sim X g w ((env ++ [.agg cs]) ++ [d]) ((vals ++ [.agg vs]) ++ [v]) sto) (hn : d.cells ≠ []) {off : Nat}
    (hle : off + d.cells.length ≤ cs.length) {vs' : Array Value} (hsz : vs'.size = vs.size) (hget : ∀ k, vs'[k]? = if off ≤ k ∧ k < off + d.cells.length then v.cells[k - off]? else vs[k]?) :
    ∃ g', Sim X g' w (env ++ [.agg (splice cs off d.cells)]) (vals ++ [.agg vs']) sto ∧ Ext g w g' w ∧ g'.φ = g.φ ∧ g'.G = g.G := by
  have hl1 : (env ++ [D.agg cs]).length = (vals ++ [Value.agg vs]).length := by have := h.len; simpa using this
  have hl : env.length = vals.length := by simpa using hl1
  have hdv := h.rep (env ++ [D.agg cs]).length d v (by simp) (by rw [hl1]; simp)
  have hav := h.rep env.length (.agg cs) (.agg vs) (by rw [List.getElem?_append_left (by simp)]; simp) (by rw [List.getElem?_append_left (by simp [hl]), hl]; simp)
  obtain ⟨hcsz, hcr⟩ := cells_rep hdv hn
  have hspl : (splice cs off d.cells).length = cs.length := by simp [splice]; omega
  obtain ⟨havl, havr⟩ : vs.size = cs.length ∧ ∀ (j : Nat) c, cs[j]? = some c → RepV X g.φ g.G w c (vs.getD j undef) := by
    cases hav with | agg h1 h2 => exact ⟨h1, h2⟩
  have hout : ∀ j, (j < off ∨ off + d.cells.length ≤ j) → vs'.getD j undef = vs.getD j undef := fun j hj => by
    simp only [Array.getD_eq_getD_getElem?, hget j]; rw [if_neg (by omega)]
  have hin : ∀ j u, v.cells[j]? = some u → j < d.cells.length → vs'.getD (off + j) undef = u := fun j u hu hj => by
    simp only [Array.getD_eq_getD_getElem?, hget (off + j)]
    rw [if_pos ⟨by omega, by omega⟩, show off + j - off = j by omega, hu]; rfl
  refine ⟨_, h.re (mergeL env.length off) (fun _ => rfl) (by simp [hl]) ?_ ?_, .names _, rfl, rfl⟩
  · intro t d' u hd hu
    rcases getElem?_snoc hd with ⟨ht, hd⟩ | ⟨rfl, rfl⟩
    · rw [List.getElem?_append_left (hl ▸ ht)] at hu
      exact h.rep t d' u (by rw [List.getElem?_append_left (by simp; omega), List.getElem?_append_left ht]; exact hd) (by rw [List.getElem?_append_left (by simp; omega), List.getElem?_append_left (hl ▸ ht)]; exact hu)
    · rw [hl] at hu; simp at hu; subst hu
      refine .agg (by rw [hspl, hsz, havl]) (fun j c hj => ?_)
      by_cases hj2 : j < off ∨ off + d.cells.length ≤ j
      · rw [splice_get_out hle hj2] at hj
        rw [hout j hj2]; exact havr j c hj
      · obtain ⟨j', rfl⟩ : ∃ j', j = off + j' := ⟨j - off, by omega⟩
        rw [splice_get_in hle (by omega)] at hj
        obtain ⟨u, hu, hr⟩ := hcr j' c hj
        rw [hin j' u hu (by omega)]; exact hr
  · intro ℓ md ty l aa len cap hoc hmd
    cases ℓ with
    | env t j =>
      by_cases ht : t < env.length
      · refine ⟨.env t j, mergeL_other (by omega), hoc.shift ?_ ?_⟩
        · rw [List.getElem?_append_left (by simp; omega), List.getElem?_append_left ht, List.getElem?_append_left ht]
        · rw [List.getElem?_append_left (by simp; omega), List.getElem?_append_left (hl ▸ ht), List.getElem?_append_left (hl ▸ ht)]
      · have he : t = env.length := by have := hoc.lt; simp at this; omega
        subst he
        generalize hℓ : Loc.env env.length j = ℓ at hoc
        generalize hxx : D.sl md ty l = xx at hoc
        generalize hyy : Value.slice (some aa) len cap = yy at hoc
        cases hoc with
        | leaf hd hv' => cases hℓ; simp at hd; subst hd; cases hxx
        | tup hd hv' hj' he => cases hℓ; simp at hd
        | cell => cases hℓ
        | agg hd hv' hj' he =>
          cases hℓ
          simp at hd; rw [hl] at hv'; simp at hv'
          subst hd; subst hv'; subst hxx; subst hyy
          rename_i j
          by_cases hj2 : j < off ∨ off + d.cells.length ≤ j
          · rw [splice_get_out hle hj2] at hj'
            rw [hout j hj2] at he
            exact ⟨.env env.length (j + 1), mergeL_other (by omega), .agg (cs := cs) (vs := vs) (by rw [List.getElem?_append_left (by simp)]; simp) (by rw [List.getElem?_append_left (by simp [hl]), hl]; simp) hj' he⟩
          · obtain ⟨j', rfl⟩ : ∃ j', j = off + j' := ⟨j - off, by omega⟩
            rw [splice_get_in hle (by omega)] at hj'
            obtain ⟨u, hu, hr⟩ := hcr j' _ hj'
            rw [hin j' u hu (by omega)] at he
            subst he
            obtain ⟨m, hm, hmj⟩ := Occ.of_cells (φ := g.φ) (w := w) (sto := sto) hl1 (fun _ => hcsz) hj' hu (rep_agg hdv) (rep_leaf hdv hn)
            have e : (env ++ [D.agg cs]).length = env.length + 1 := by simp
            rw [e] at hm
            exact ⟨_, mergeL_cell hmj, hm⟩
    | obj i => exact hoc.not_obj.elim
    | cell i j => exact ⟨.cell i j, rfl, hoc.of_slot (fun _ _ h => by cases h)⟩

theorem getD_hand {env hs : List D} {t : Nat} (ht : t < env.length) : (env ++ hs).getD t .any = env.getD t .any := by
  simp only [List.getD]; rw [List.getElem?_append_left ht]

/-- An operand comes to hand, behind what is in hand already. -/
theorem Sim.take2 {h1 : D} {v1 : Value} (hs : Sim X g w (env ++ [h1]) (a.tmps.toList ++ [v1]) sto) (x : Operand) (hne : (rd env x).cells ≠ []) :
    ∃ g', Sim X g' w ((left env x ++ [h1]) ++ [rd env x]) ((a.tmps.toList ++ [v1]) ++ [a.eval x]) sto ∧ Ext g w g' w ∧ g'.φ = g.φ ∧ g'.G = g.G := by
  have hl : env.length = a.tmps.toList.length := by have := hs.len; simpa using this
  have hr := hs.drop.read x
  cases x with
  | tmp t =>
    have ht : t < env.length := by
      rcases Nat.lt_or_ge t env.length with h | h
      · exact h
      · exfalso; apply hne
        show (env.getD t .any).cells = []
        rw [getD_out h]; rfl
    have hv : t < a.tmps.size := Nat.lt_of_lt_of_eq ht (hl.trans Array.length_toList)
    obtain ⟨g', h2, e, e1, e2⟩ := hs.hand (s := t) (d := env.getD t .any) (v := a.tmps.getD t undef) (by rw [List.getElem?_append_left ht]; exact rd_tmp_get ht)
      (by rw [List.getElem?_append_left (hl ▸ ht)]; simp [Array.getD, hv])
    refine ⟨g', ?_, e, e1, e2⟩
    rw [List.set_append_left _ _ ht] at h2
    exact h2
  | const v => exact ⟨g, hs.push _ _ hr (const_free v), .refl _ _, rfl, rfl⟩
  | func f => exact ⟨g, hs.push _ _ hr rfl, .refl _ _, rfl, rfl⟩
  | global b => exact absurd rfl hne

theorem fillS_sound {fs : List FI} {place : Nat → Option (Nat × Nat)} (hp : ∀ (i : Nat) fi, fs[i]? = some fi → place i = some (fi.off, fi.size)) :
    ∀ (parts : List (Nat × Operand)) (env env' : List D) (cs cs' : List D) (V : Array Value) (g : Gh), fillS fs env parts cs = some (cs', env') → Sim X g w (env ++ [.agg cs]) (a.tmps.toList ++ [.agg V]) sto →
      ∃ V' g', Instr.fill place V (parts.map fun p => (p.1, a.eval p.2)) = some V' ∧ Sim X g' w (env' ++ [.agg cs']) (a.tmps.toList ++ [.agg V']) sto ∧ Ext g w g' w
  | [], env, env', cs, cs', V, g, h, hs => by
    cases h; exact ⟨V, g, rfl, hs, .refl _ _⟩
  | (i, x) :: rest, env, env', cs, cs', V, g, h, hs => by
    unfold fillS at h
    split at h
    · rename_i fi hfi
      split at h
      · rename_i h1 h2
        obtain ⟨hl, hlv, h1s⟩ := fits_spec h1
        have hne : (rd env x).cells ≠ [] := by intro e; rw [e] at hl; simp at hl; omega
        have hle := Nat.le_of_ble_eq_true h2
        have hln : env.length = a.tmps.toList.length := by have := hs.len; simpa using this
        have hag := hs.rep env.length (.agg cs) (.agg V) (by simp) (by rw [hln]; simp)
        have hVs : V.size = cs.length := by cases hag with | agg h _ => exact h
        obtain ⟨hvs, _⟩ := cells_rep (hs.drop.read x) hne
        obtain ⟨V1, hf, hsz, hget⟩ := fill_one (V := V) (rest := rest.map fun p => (p.1, a.eval p.2)) (hp i fi hfi) (hvs.trans hl) (by rw [hVs]; omega)
        obtain ⟨g1, h3, e1, _⟩ := hs.take2 x hne
        obtain ⟨g2, h4, e2, _⟩ := h3.merge hne hle hsz (fun k => by rw [hget k, hl])
        obtain ⟨V', g', h5, h6, h7⟩ := fillS_sound hp rest _ env' _ cs' V1 g2 h h4
        exact ⟨V', g', by rw [List.map_cons, hf]; exact h5, h6, e1.trans (e2.trans h7)⟩
      · cases h
    · cases h

theorem run_places : ∀ {fs : List FI} {F : List Field}, fieldsB P fs F = true → (F.mapM fun f => (do pure (f.offset, ← sizeOf f.type) : Sem (Nat × Nat))).run P w = .ok (fs.map fun fi => (fi.off, fi.size)) w
  | [], [], _ => rfl
  | [], _ :: _, h => by cases h
  | _ :: _, [], h => by cases h
  | fi :: fs, f :: F, h => by
    rw [fieldsB, Bool.and_eq_true] at h
    obtain ⟨h1, h2⟩ := h
    have ih := run_places h2
    obtain ⟨fl, e1, e2, e3, _⟩ := field_get (P := P) (fs := [fi]) (F := #[f]) (by simp [fieldsB, h1]) (f := 0) (fi := fi) rfl
    simp at e1; subst e1
    rw [List.mapM_cons]
    simp only [Sem.run_bind, e3, Result.andThen_ok, Sem.run_pure, ih, e2]
    rfl

theorem op_build (hcx : CxOk P X cx) {t : TypeId} {parts : Array (Nat × Operand)} (ho : o.op = .build t parts) (hs : Sim X g w env a.tmps.toList sto) {ts : TE} {fs : List FI} {cs env' : List D}
    (h1 : look cx.tab t = some ts) (hd : ts.d = .struct fs) (hf : fillS fs env parts.toList ts.zero = some (cs, env')) (hk : k ⟨put env' o.dst (.agg cs), sto⟩ = some r) : OpOk P X o a w g k r := by
  obtain ⟨F, hu, hF⟩ := desc_struct hcx h1 hd
  have hte := hcx.tab _ _ h1
  obtain ⟨i, z, hi, _, _, hz, hzl⟩ := hte.info
  obtain ⟨hzlen, hzg⟩ := zeroL_spec hzl
  have hrep : RepV X g.φ g.G w (.agg ts.zero) (.agg z.cells) := .agg (by simpa using hzlen) (fun j c hj => by
    obtain ⟨u, hu, hz1⟩ := hzg j c hj
    have : (z.cells).getD j undef = u := by
      have hu' : z.cells[j]? = some u := by simpa using hu
      have := (Array.getElem?_eq_some_iff.1 hu')
      simp [Array.getD, this.1, this.2]
    rw [this]; exact (zero1_spec hz1).1)
  have hfree : (D.agg ts.zero).free = true := by
    simp only [D.free, List.all_eq_true]
    intro c hc
    obtain ⟨j, hj⟩ := List.mem_iff_getElem?.1 hc
    obtain ⟨u, hu, hz1⟩ := hzg j c hj
    unfold zero1 at hz1
    split at hz1 <;> first | rfl | cases hz1
  obtain ⟨V', g', h3, h4, e1⟩ := fillS_sound (a := a) (place := fun i => (fs.map fun fi => (fi.off, fi.size)).toArray[i]?) (fun i fi hfi => by simp [hfi]) parts.toList env env' ts.zero cs z.cells g hf (hs.push _ _ hrep hfree)
  obtain ⟨g2, h5, e2, _⟩ := h4.lay o.dst
  refine ⟨_, w, g2, _, _, .inl ?_, hk, h5, e1.trans e2⟩
  have hpl : (F.mapM fun f => (do pure (f.offset, ← sizeOf f.type) : Sem (Nat × Nat))).run P w = .ok (fs.map fun fi => (fi.off, fi.size)).toArray w := by
    rw [Array.mapM_eq_mapM_toList]
    have := run_places (w := w) hF
    simp only [map_eq_pure_bind, Sem.run_bind, this, Result.andThen_ok, Sem.run_pure]
  have hps : (parts.map fun p => (p.1, a.eval p.2)).toList = parts.toList.map fun p => (p.1, a.eval p.2) := by simp
  have hrun : (Instr.build t (parts.map fun p => (p.1, a.eval p.2))).run P w = .ok (.agg V') w := by
    unfold Instr.build
    have h3' : Instr.fill (fun x => (fs.map fun fi => (fi.off, fi.size)).toArray[x]?) z.cells (parts.map fun p => (p.1, a.eval p.2)).toList = some V' := by rw [hps]; exact h3
    simp only [Sem.run_bind, run_zero hi hz, run_underlying hu, Result.andThen_ok, hpl, h3', Sem.run_pure]
  simp only [execOp, ho, Sem.run_bind]
  have hrun' : (Instr.build t (parts.map fun x => match x with | (i, x) => (i, a.eval x))).run P w = .ok (.agg V') w := hrun
  rw [hrun']
  rfl

end
end Go.Ev

/-! Calls: what goes in, what comes back. -/
namespace Go.Ev
section
variable {P : Program} {X : Cfg} {R : Type} {w : World}
variable {g : Gh} {env : List D} {sto : Sto} {o : Oper} {a : Act} {k : St → Option R} {r : R} {cx : Cx}

/-- What a call leaves behind it. -/
def CallPost (X : Cfg) (g : Gh) (w : World) (K : D → Sto → Option R) (r : R) : Ending → World → Prop :=
  fun e w' => ∃ v d sto' g', e = .returned v ∧ K d sto' = some r ∧ Sim X g' w' [d] [v] sto' ∧ Ext g w g' w'

/-- A call, as an operation meets it: a function with a body, or one of the model's own. -/
def CallsOp (P : Program) (f : FuncId) (args : Array Value) (w : World) (Q : Ending → World → Prop) : Prop :=
  ((callFunc f args).run P w = .ok (.enter f args) w ∧ Calls P f args w Q) ∨ (∃ v w', (callFunc f args).run P w = .ok (.value v) w' ∧ Q (.returned v) w')

/-- The evaluator's way of calling is right. -/
def HcOk (P : Program) (X : Cfg) (hc : FuncId → List D → Sto → (D → Sto → Option R) → Option R) : Prop :=
  ∀ f args sto K r g w (vals : List Value), hc f args sto K = some r → Sim X g w args vals sto → CallsOp P f vals.toArray w (CallPost X g w K r)

theorem Sim.dropAll {g vals} : ∀ {H : List D} {HV : List Value}, env.length = vals.length → Sim X g w (env ++ H) (vals ++ HV) sto → Sim X g w env vals sto := by
  intro H HV hl h
  refine h.re_id hl ?_ ?_
  · intro t d v hd hv
    exact h.rep t d v (by rw [List.getElem?_append_left (List.getElem?_eq_some_iff.1 hd).1]; exact hd) (by rw [List.getElem?_append_left (List.getElem?_eq_some_iff.1 hv).1]; exact hv)
  · intro ℓ md ty l a len cap ho hmd
    cases ℓ with
    | env t j => exact ho.shift (List.getElem?_append_left ho.lt) (List.getElem?_append_left (hl ▸ ho.lt))
    | obj i => exact ho.not_obj.elim
    | cell i j => exact ho.of_slot (fun _ _ h => by cases h)

theorem argsOf_sound (want : List Nat) : ∀ (args : List Operand) (i : Nat) (env env' : List D) (ds H : List D) (HV : List Value) (g : Gh), argsOf env want i args = (ds, env') →
    env.length = a.tmps.toList.length → Sim X g w (env ++ H) (a.tmps.toList ++ HV) sto →
      ∃ g', Sim X g' w (env' ++ (H ++ ds)) (a.tmps.toList ++ (HV ++ args.map a.eval)) sto ∧ Ext g w g' w ∧ env'.length = a.tmps.toList.length
  | [], i, env, env', ds, H, HV, g, h, hl, hs => by
    cases h; exact ⟨g, by simpa using hs, .refl _ _, hl⟩
  | x :: rest, i, env, env', ds, H, HV, g, h, hl, hs => by
    have hr := (hs.dropAll hl).read x
    unfold argsOf at h
    simp only at h
    split at h
    · -- taken over
      rename_i hw
      generalize hrec : argsOf (left env x) want (i + 1) rest = p at h
      obtain ⟨ds', env2⟩ := p
      simp only at h
      cases h
      have htake : ∃ g', Sim X g' w (left env x ++ (H ++ [rd env x])) (a.tmps.toList ++ (HV ++ [a.eval x])) sto ∧ Ext g w g' w := by
        cases x with
        | tmp t =>
          by_cases ht : t < env.length
          · have hv : t < a.tmps.size := Nat.lt_of_lt_of_eq ht (hl.trans Array.length_toList)
            obtain ⟨g', h2, e, _⟩ := hs.hand (s := t) (d := env.getD t .any) (v := a.tmps.getD t undef) (by rw [List.getElem?_append_left ht]; exact rd_tmp_get ht)
              (by rw [List.getElem?_append_left (hl ▸ ht)]; simp [Array.getD, hv])
            refine ⟨g', ?_, e⟩
            rw [List.set_append_left _ _ ht, List.append_assoc, List.append_assoc] at h2
            exact h2
          · have e : rd env (.tmp t) = .any := getD_out (Nat.le_of_not_lt ht)
            have e2 : left env (.tmp t) = env := List.set_eq_of_length_le (Nat.le_of_not_lt ht)
            rw [e, e2, ← List.append_assoc, ← List.append_assoc]
            exact ⟨g, hs.push _ _ (.any _) rfl, .refl _ _⟩
        | const v => rw [← List.append_assoc, ← List.append_assoc]; exact ⟨g, hs.push _ _ hr (const_free v), .refl _ _⟩
        | func f => rw [← List.append_assoc, ← List.append_assoc]; exact ⟨g, hs.push _ _ hr rfl, .refl _ _⟩
        | global b => rw [← List.append_assoc, ← List.append_assoc]; exact ⟨g, hs.push _ _ hr rfl, .refl _ _⟩
      obtain ⟨g1, h1, e1⟩ := htake
      have hl2 : (left env x).length = a.tmps.toList.length := by rw [← hl]; cases x <;> simp [left]
      obtain ⟨g2, h3, e2, hl3⟩ := argsOf_sound want rest (i + 1) _ _ _ _ _ g1 hrec hl2 h1
      refine ⟨g2, ?_, e1.trans e2, hl3⟩
      simpa [List.append_assoc] using h3
    · rename_i hw
      generalize hrec : argsOf env want (i + 1) rest = p at h
      obtain ⟨ds', env2⟩ := p
      simp only at h
      cases h
      have h1 := hs.push _ _ hr.dup (dup_free _)
      rw [List.append_assoc, List.append_assoc] at h1
      obtain ⟨g2, h3, e2, hl3⟩ := argsOf_sound want rest (i + 1) _ _ _ _ _ g hrec hl h1
      refine ⟨g2, ?_, e2, hl3⟩
      simpa [List.append_assoc] using h3

theorem Sim.pushAll : ∀ {ds : List D} {vs : List Value} {env : List D} {vals : List Value}, Sim X g w env vals sto → ds.length = vs.length → (∀ (j : Nat) d v, ds[j]? = some d → vs[j]? = some v → RepV X g.φ g.G w d v ∧ d.free = true) →
    Sim X g w (env ++ ds) (vals ++ vs) sto
  | [], [], env, vals, h, _, _ => by simpa using h
  | [], _ :: _, _, _, _, h, _ => by cases h
  | _ :: _, [], _, _, _, h, _ => by cases h
  | d :: ds, v :: vs, env, vals, h, hl, hr => by
    obtain ⟨h1, h2⟩ := hr 0 d v rfl rfl
    have := Sim.pushAll (h.push d v h1 h2) (by simpa using hl) (fun j d v hd hv => hr (j + 1) d v (by simpa using hd) (by simpa using hv))
    simpa [List.append_assoc] using this

/-- The owners as the called function sees them: what is not handed over is nobody's. -/
def inner (g : Gh) (n : Nat) : Gh :=
  { g with κ := fun b => match g.κ b with
      | some (.env t j) => if t < n then none else some (.env (t - n) j)
      | x => x }

theorem inner_none {g : Gh} {n b : Nat} (h : g.κ b = none) : (inner g n).κ b = none := by simp [inner, h]

theorem Sim.enter {vals ds dv} (hl : env.length = vals.length) (h : Sim X g w (env ++ ds) (vals ++ dv) sto) : Sim X (inner g env.length) w ds dv sto := by
  have hocc : ∀ ℓ d v, Occ g.φ w ds dv sto ℓ d v → Occ g.φ w (env ++ ds) (vals ++ dv) sto (match ℓ with | .env t j => .env (env.length + t) j | ℓ => ℓ) d v := by
    intro ℓ d v ho
    cases ℓ with
    | env t j =>
      refine ho.shift (t' := env.length + t) ?_ ?_
      · rw [List.getElem?_append_right (by omega)]; congr 1; omega
      · rw [List.getElem?_append_right (by omega)]; congr 1; omega
    | obj i => exact ho.not_obj.elim
    | cell i j => exact ho.of_slot (fun _ _ h => by cases h)
  refine ⟨by have := h.len; simp at this; omega, ?_, h.slen, ?_, ?_, ?_, h.gdom⟩
  · intro t d v hd hv
    exact h.rep (env.length + t) d v (by rw [List.getElem?_append_right (by omega)]; rw [show env.length + t - env.length = t by omega]; exact hd)
      (by rw [List.getElem?_append_right (by omega)]; rw [show env.length + t - vals.length = t by omega]; exact hv)
  · intro i b cs hb hi
    exact (h.obj i b cs hb hi).map (fun b k => ⟨by simp [inner, k], id, fun _ => ⟨rfl, rfl⟩⟩) (fun _ _ h => h)
  · intro ℓ md t l a len cap ho hmd
    obtain ⟨k, gg, sp⟩ := h.own _ _ _ _ _ _ _ (hocc _ _ _ ho) hmd
    refine ⟨?_, gg, sp⟩
    cases ℓ with
    | env t j => simp only at k; simp [inner, k]
    | obj i => exact ho.not_obj.elim
    | cell i j => simp only at k; simp [inner, k]
  · intro b ℓ hb
    cases hk : g.κ b with
    | none => simp [inner, hk] at hb
    | some ℓ' => exact h.kdom b ℓ' hk

/-- The owners behind the call. -/
def outer (g g1 : Gh) (n : Nat) : Nat → Option Loc := fun b =>
  match g.κ b with
  | some (.env t j) => if t < n then some (.env t j) else (g1.κ b).map fun ℓ => match ℓ with | .env t j => .env (n + t) j | ℓ => ℓ
  | _ => (g1.κ b).map fun ℓ => match ℓ with | .env t j => .env (n + t) j | ℓ => ℓ

theorem Sim.back {vals ds dv d v sto1} {w1 : World} {g1 : Gh} (hl : env.length = vals.length) (h : Sim X g w (env ++ ds) (vals ++ dv) sto) (h1 : Sim X g1 w1 [d] [v] sto1)
    (e : Ext (inner g env.length) w g1 w1) : ∃ g2, Sim X g2 w1 (env ++ [d]) (vals ++ [v]) sto1 ∧ Ext g w g2 w1 := by
  have hinn : ∀ b t j, g.κ b = some (.env t j) → t < env.length → (inner g env.length).κ b = none := fun b t j hk ht => by simp [inner, hk, ht]
  have hk1 : ∀ b ℓ, g1.κ b = some ℓ → outer g g1 env.length b = some (match ℓ with | .env t j => .env (env.length + t) j | ℓ => ℓ) := by
    intro b ℓ hb
    unfold outer
    split
    · rename_i t j hk
      split
      · rename_i ht
        have := e.kdom b (h.kdom b _ hk) (hinn b t j hk ht)
        rw [this] at hb; cases hb
      · rw [hb]; rfl
    · rw [hb]; rfl
  have hocc1 : ∀ {j : Nat} {md : Md} {ty : Ty} {l : List ty.den} {u : Value}, Occ g1.φ w1 (env ++ [d]) (vals ++ [v]) sto1 (.env env.length j) (.sl md ty l) u → Occ g1.φ w1 [d] [v] sto1 (.env 0 j) (.sl md ty l) u := by
    intro j md ty l u ho
    refine ho.shift (t' := 0) ?_ ?_
    · simp
    · rw [hl]; simp
  let g2 : Gh := { φ := g1.φ, G := g1.G, κ := outer g g1 env.length }
  refine ⟨g2, ⟨by simp [hl], ?_, h1.slen, ?_, ?_, ?_, h1.gdom⟩, ⟨e.size, e.os, e.tape, e.output, fun b hb hn => e.blk b hb (inner_none hn), e.cell, e.gmono, fun b hb hn => e.gsame b hb (inner_none hn), ?_, e.φ⟩⟩
  · intro t d' v' hd hv
    rcases getElem?_snoc hd with ⟨ht, hd⟩ | ⟨rfl, rfl⟩
    · rw [List.getElem?_append_left (hl ▸ ht)] at hv
      have := h.rep t d' v' (by rw [List.getElem?_append_left ht]; exact hd) (by rw [List.getElem?_append_left (hl ▸ ht)]; exact hv)
      exact this.mono e.φ e.gmono e.cell
    · rw [hl] at hv; simp at hv; subst hv
      exact h1.rep 0 d' v rfl rfl
  · intro i b cs hb hi
    exact (h1.obj i b cs hb hi).map (fun b k => ⟨hk1 b _ k, id, fun _ => ⟨rfl, rfl⟩⟩) (fun _ _ h => h)
  · intro ℓ md ty l aa len cap ho hmd
    cases ℓ with
    | env t j =>
      by_cases ht : t < env.length
      · have ho' : Occ g.φ w (env ++ ds) (vals ++ dv) sto (.env t j) (.sl md ty l) (.slice (some aa) len cap) := by
          have := ho.shift (env' := env ++ ds) (vals' := vals ++ dv) (t' := t) (by rw [List.getElem?_append_left ht, List.getElem?_append_left ht]) (by rw [List.getElem?_append_left (hl ▸ ht), List.getElem?_append_left (hl ▸ ht)])
          generalize hℓ : Loc.env t j = ℓ at this ⊢
          cases this with
          | leaf hd hv => exact .leaf hd hv
          | agg hd hv hj he => exact .agg hd hv hj he
          | tup hd hv hj he => exact .tup hd hv hj he
          | cell => cases hℓ
        obtain ⟨k, gg, sp⟩ := h.own _ _ _ _ _ _ _ ho' hmd
        have hin := hinn _ _ _ k ht
        have hlt := h.kdom _ _ k
        have hblk := e.blk _ hlt hin
        refine ⟨by simp [g2, outer, k, ht], (e.gsame _ hlt hin).trans gg, fun jj h1 h2 => ?_⟩
        obtain ⟨⟨u, hu⟩, hf⟩ := sp jj h1 h2
        exact ⟨⟨u, by rw [World.cell?_of_block (w := w) (a := ⟨aa.block, aa.off + jj, none⟩) hblk]; exact hu⟩, by rw [World.frozen?_of_block (w := w) (a := ⟨aa.block, aa.off + jj, none⟩) hblk]; exact hf⟩
      · have he : t = env.length := by have := ho.lt; simp at this; omega
        subst he
        obtain ⟨k, gg, sp⟩ := h1.own _ _ _ _ _ _ _ (hocc1 ho) hmd
        exact ⟨by have := hk1 _ _ k; simpa using this, gg, sp⟩
    | obj i => exact ho.not_obj.elim
    | cell i j =>
      obtain ⟨k, gg, sp⟩ := h1.own _ _ _ _ _ _ _ (ho.of_slot (env' := [d]) (vals' := [v]) (fun _ _ h => by cases h)) hmd
      exact ⟨hk1 _ _ k, gg, sp⟩
  · intro b ℓ hb
    have hb' : outer g g1 env.length b = some ℓ := hb
    cases hk : g1.κ b with
    | some ℓ' => exact h1.kdom b ℓ' hk
    | none =>
      unfold outer at hb'
      split at hb'
      · rename_i t j hk2
        exact Nat.lt_of_lt_of_le (h.kdom b _ hk2) e.size
      · rw [hk] at hb'; cases hb'
  · intro b hb hn
    have := e.kdom b hb (inner_none hn)
    show outer g g1 env.length b = none
    simp [outer, hn, this]

/-- The operation 'call'. -/
theorem op_call {hc : FuncId → List D → Sto → (D → Sto → Option R) → Option R} (hok : HcOk P X hc) {fo : Operand} {args : Array Operand} {ats : Array TypeId} (ho : o.op = .call { callee := .value fo, args, argTypes := ats })
    (hs : Sim X g w env a.tmps.toList sto) {f : FuncId} {caps : List D} {want : List Nat} (hf : rd env fo = .fn f caps) {ds env' : List D} (hargs : argsOf env want 0 args.toList = (ds, env'))
    (h : (hc f (ds ++ caps.map D.dup) sto fun d sto' => k ⟨put env' o.dst d, sto'⟩) = some r) {next : Act → World → Prop} {Q : Exit → Act → World → Prop}
    (hn : ∀ v w' g' env' sto', k ⟨env', sto'⟩ = some r → Sim X g' w' env' (putV a.tmps.toList o.dst v) sto' → Ext g w g' w' → next (a.put o.dst v) w') : o.wp P a w next Q := by
  obtain ⟨cv, hfv, hcv⟩ : ∃ cv : Array Value, a.eval fo = .func (.func f) #[] cv ∧ (cv.size = caps.length ∧ ∀ (j : Nat) c, caps[j]? = some c → RepV X g.φ g.G w c (cv.getD j undef)) := by
    have := hs.read fo
    rw [hf] at this
    generalize hv : a.eval fo = v at this
    cases this with
    | fn hl hr => exact ⟨_, rfl, hl, hr⟩
  obtain ⟨g1, h1, e1, hl⟩ := argsOf_sound (a := a) want args.toList 0 env env' ds [] [] g hargs hs.len (by simpa using hs)
  simp only [List.nil_append] at h1
  have h2 := Sim.pushAll (ds := caps.map D.dup) (vs := cv.toList) h1 (by simp [hcv.1]) (fun j d v hd hv => by
    simp only [List.getElem?_map, Option.map_eq_some_iff] at hd
    obtain ⟨c, hc0, rfl⟩ := hd
    have := hcv.2 j c hc0
    have e : cv.getD j undef = v := by
      have hv' : cv[j]? = some v := by simpa using hv
      simp only [Array.getD_eq_getD_getElem?, hv']; rfl
    rw [e] at this
    exact ⟨(this.mono e1.φ e1.gmono e1.cell).dup, dup_free _⟩)
  rw [List.append_assoc, List.append_assoc] at h2
  have h3 := h2.enter hl
  have hcall := hok f _ sto _ r _ w _ h h3
  have hvals : (args.toList.map a.eval ++ cv.toList).toArray = args.map a.eval ++ cv := by simp
  rw [hvals] at hcall
  have hrun : (execOp a.eval o).run P w = (callFunc f (args.map a.eval ++ cv)).run P w := by
    simp [execOp, ho, resolve, hfv, Deferred.ofValue, invoke]
  have fin : ∀ (v : Value) (w' : World), CallPost X (inner g1 env'.length) w (fun d sto' => k ⟨put env' o.dst d, sto'⟩) r (.returned v) w' → next (a.put o.dst v) w' := by
    intro v w' hp
    obtain ⟨v', d, sto', g', hv, hk, h4, e4⟩ := hp
    cases hv
    obtain ⟨g2, h5, e5⟩ := h2.back hl h4 e4
    obtain ⟨g3, h6, e6, _⟩ := h5.lay o.dst
    exact hn v w' g3 _ sto' hk h6 (e1.trans (e5.trans e6))
  unfold Oper.wp
  rw [hrun]
  rcases hcall with ⟨hc1, hc2⟩ | ⟨v, w', hc1, hc2⟩
  · rw [hc1]
    refine hc2.mono (fun e w' hp => ?_)
    have hp' := hp
    obtain ⟨v', d, sto', g', hv, _⟩ := hp'
    subst hv
    exact fin v' w' hp
  · rw [hc1]
    exact fin v w' hc2

end
end Go.Ev
