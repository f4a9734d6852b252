/-
  Plain laws of the pure functions.
  Conditions: those that each statement prints, and no other.
-/
import Derived.Test.YtbikfekdakigiaaGreatDoorPParTP
set_option linter.unusedVariables false
set_option linter.unusedSimpArgs false
/-! Brackets around each part: the plain parser reads it back. -/
namespace Go.Proofs.YtbikfekdakigiaaGreatDoor.E
open Go.Ev
set_option maxRecDepth 100000

/-- Of what stands behind: no op of a level from lv on; no test, if lv is a test's. -/
def Stop (lv : Int) (rest : List Tk) : Prop := Wt rest ∧ ∀ t r, rest = t :: r →
  (∀ l : Int, lv ≤ l → opOf l t.1 t.2.1 = 0) ∧ (lv ≤ 2 → isTok kIs t = false ∧ ¬ (t.1 = 5 ∧ cmpOp t.2.1 ≠ 0)) ∧ isTok [46] t = false

theorem Stop.wt {lv : Int} {rest : List Tk} (h : Stop lv rest) : Wt rest := h.1
theorem Stop.mono {lv lv' : Int} {rest : List Tk} (h : Stop lv rest) (hl : lv ≤ lv') : Stop lv' rest := ⟨h.1, fun t r e => ⟨fun l hh => (h.2 t r e).1 l (by omega), fun hh => (h.2 t r e).2.1 (by omega), (h.2 t r e).2.2⟩⟩

theorem wt_append {l r : List Tk} (h : Wt r) : Wt (l ++ r) := by
  induction l with
  | nil => exact h
  | cons t l ih => exact .inr ih

/-- What an atom's tokens do: read as one. -/
def Atom (Z : ZS) (d : Int) (A : List Tk) (x : Ex) : Prop := ∀ rest, Stop 0 rest ∨ Wt rest ∧ (∃ t r, rest = t :: r ∧ isTok [46] t = false ∧ isTok [40] t = false) → oneS Z d (some (A ++ rest)) = some (x, some rest)

/-- Tokens that do not begin with a sign, or a not. -/
def Plain (A : List Tk) : Prop := ∃ t r, A = t :: r ∧ isTok [45] t = false ∧ isTok kNot t = false
theorem Plain.no {A : List Tk} (h : Plain A) : ∃ t r, A = t :: r ∧ isTok kNot t = false := by obtain ⟨t, r, a, _, c⟩ := h; exact ⟨t, r, a, c⟩

theorem loop_stop {Z : ZS} {lv d : Int} {x : Ex} {rest : List Tk} (h : Stop lv rest) (n : Nat) : loopS Z lv d (n + 1) x (some rest) = some (x, some rest) := by
  obtain ⟨t, r, rfl⟩ := h.wt.cons
  unfold loopS
  dsimp only
  rw [if_pos ((h.2 t r rfl).1 lv (Int.le_refl _))]

section
variable (N : Nat)

/-- Read at level lv, with what stands behind. -/
def At (n : Nat) (lv d : Int) (T : List Tk) (x : Ex) (rest : List Tk) : Prop := (zAt N n).ex lv d (some (T ++ rest)) = some (x, some rest)

theorem at_five {n : Nat} {d : Int} {T rest : List Tk} {x : Ex} (hp : Plain T) (h : oneS (zAt N n) d (some (T ++ rest)) = some (x, some rest)) : At N (n + 1) 5 d T x rest := by
  obtain ⟨t, r, rfl, h1, h2⟩ := hp
  show exprS N (zAt N n) 5 d (some (t :: (r ++ rest))) = _
  unfold exprS
  rw [if_neg (by decide), if_pos rfl]
  simp only [signS]
  rw [h1, if_neg (by simp)]
  exact h

theorem at_down (hN : 2 ≤ N) {n : Nat} {lv d : Int} {T rest : List Tk} {x : Ex} (hl : lv = 0 ∨ lv = 1 ∨ lv = 3 ∨ lv = 4) (h : At N n (lv + 1) d T x rest) (hs : Stop lv rest) : At N (n + 1) lv d T x rest := by
  show exprS N (zAt N n) lv d (some (T ++ rest)) = _
  unfold exprS
  rw [if_neg (by omega), if_neg (by omega)]
  have h' : (zAt N n).ex (lv + 1) d (some (T ++ rest)) = some (x, some rest) := h
  rw [h', bind_some']
  obtain ⟨f, rfl⟩ : ∃ f, N = f + 1 := ⟨N - 1, by omega⟩
  exact loop_stop hs f

theorem at_two {n : Nat} {d : Int} {T rest : List Tk} {x : Ex} (hp : ∃ t r, T = t :: r ∧ isTok kNot t = false) (h : At N n 3 d T x rest) (hs : Stop 2 rest) : At N (n + 1) 2 d T x rest := by
  obtain ⟨t, r, rfl, h2⟩ := hp
  show exprS N (zAt N n) 2 d (some (t :: (r ++ rest))) = _
  unfold exprS
  rw [if_pos rfl]
  simp only [notS]
  rw [h2, if_neg (by simp)]
  unfold testS
  have h' : (zAt N n).ex 3 d (some (t :: (r ++ rest))) = some (x, some rest) := h
  rw [h', bind_some']
  obtain ⟨u, v, rfl⟩ := hs.wt.cons
  obtain ⟨_, h4, _⟩ := hs.2 u v rfl
  obtain ⟨h5, h6⟩ := h4 (by decide)
  dsimp only
  rw [h5, if_neg (by simp), if_neg h6]

/-- Up from one to any level. -/
theorem at_all (hN : 2 ≤ N) {n : Nat} {d : Int} {T rest : List Tk} {x : Ex} (hp : Plain T) (h : ∀ m, n ≤ m → oneS (zAt N m) d (some (T ++ rest)) = some (x, some rest)) {lv : Int} (h0 : 0 ≤ lv) (h5 : lv ≤ 5) (hs : Stop lv rest) :
    ∀ m : Nat, n + (6 - lv.toNat) ≤ m → At N m lv d T x rest := by
  intro m hm
  have e5 : ∀ m, n + 1 ≤ m → At N m 5 d T x rest := fun m hm => by
    obtain ⟨k, rfl⟩ : ∃ k, m = k + 1 := ⟨m - 1, by omega⟩
    exact at_five N hp (h k (by omega))
  have e4 : lv ≤ 4 → ∀ m, n + 2 ≤ m → At N m 4 d T x rest := fun hl m hm => by
    obtain ⟨k, rfl⟩ : ∃ k, m = k + 1 := ⟨m - 1, by omega⟩
    exact at_down N hN (by omega) (e5 k (by omega)) (hs.mono hl)
  have e3 : lv ≤ 3 → ∀ m, n + 3 ≤ m → At N m 3 d T x rest := fun hl m hm => by
    obtain ⟨k, rfl⟩ : ∃ k, m = k + 1 := ⟨m - 1, by omega⟩
    exact at_down N hN (by omega) (e4 (by omega) k (by omega)) (hs.mono hl)
  have e2 : lv ≤ 2 → ∀ m, n + 4 ≤ m → At N m 2 d T x rest := fun hl m hm => by
    obtain ⟨k, rfl⟩ : ∃ k, m = k + 1 := ⟨m - 1, by omega⟩
    exact at_two N hp.no (e3 (by omega) k (by omega)) (hs.mono hl)
  have e1 : lv ≤ 1 → ∀ m, n + 5 ≤ m → At N m 1 d T x rest := fun hl m hm => by
    obtain ⟨k, rfl⟩ : ∃ k, m = k + 1 := ⟨m - 1, by omega⟩
    exact at_down N hN (by omega) (e2 (by omega) k (by omega)) (hs.mono hl)
  have hc : lv = 0 ∨ lv = 1 ∨ lv = 2 ∨ lv = 3 ∨ lv = 4 ∨ lv = 5 := by omega
  rcases hc with rfl | rfl | rfl | rfl | rfl | rfl
  · obtain ⟨k, rfl⟩ : ∃ k, m = k + 1 := ⟨m - 1, by omega⟩
    exact at_down N hN (by omega) (e1 (by decide) k (by simp at hm; omega)) hs
  · exact e1 (by decide) m (by simpa using hm)
  · exact e2 (by decide) m (by simpa using hm)
  · exact e3 (by decide) m (by simpa using hm)
  · exact e4 (by decide) m (by simpa using hm)
  · exact e5 m (by simpa using hm)

/-- The same, where what one reads hangs on what stands behind. -/
theorem at_down_of (hN : 2 ≤ N) {lv : Int} (h0 : 0 ≤ lv) (h2 : lv ≤ 2) {d : Int} {T rest : List Tk} {x : Ex} (hs : Stop 0 rest) {n : Nat} (h : ∀ m, n ≤ m → At N m 2 d T x rest) : ∀ m, n + 2 ≤ m → At N m lv d T x rest := by
  intro m hm
  have e1 : ∀ m, n + 1 ≤ m → At N m 1 d T x rest := fun m hm => by
    obtain ⟨k, rfl⟩ : ∃ k, m = k + 1 := ⟨m - 1, by omega⟩
    exact at_down N hN (by omega) (h k (by omega)) (hs.mono (by decide))
  have hc : lv = 0 ∨ lv = 1 ∨ lv = 2 := by omega
  rcases hc with rfl | rfl | rfl
  · obtain ⟨k, rfl⟩ : ∃ k, m = k + 1 := ⟨m - 1, by omega⟩
    exact at_down N hN (by omega) (e1 k (by omega)) hs
  · exact e1 m (by omega)
  · exact h m (by omega)

/-! ### Brackets -/

def tB (t : Tk) : Prop := t.1 = 5 ∧ t.2.1 = [40]
def tE (t : Tk) : Prop := t.1 = 5 ∧ t.2.1 = [41]

theorem tok_of {s : List UInt8} {t : Tk} (h : t.1 = 5 ∧ t.2.1 = s) : isTok s t = true := by simp [isTok, h.1, h.2]
theorem tok_ne {s s' : List UInt8} {t : Tk} (h : t.2.1 = s') (hne : s' ≠ s) : isTok s t = false := by
  unfold isTok; rw [h]; simp [hne]

theorem stop_end {t : Tk} (h : tE t) {rest : List Tk} (hw : Wt rest) : Stop 0 (t :: rest) := by
  refine ⟨.inr hw, fun u r e => ?_⟩
  cases e
  refine ⟨fun l _ => ?_, fun _ => ⟨tok_ne h.2 (by decide), ?_⟩, tok_ne h.2 (by decide)⟩
  · unfold opOf; rw [if_pos (.inr h.1), h.2]; simp
  · rw [h.2]; exact fun hh => hh.2 rfl

/-- What stands in brackets is read as one. -/
theorem one_bracket {n : Nat} {d : Int} (hd : d < 64) {b e : Tk} (hb : tB b) (he : tE e) {T : List Tk} {x : Ex} (h : ∀ rest, Stop 0 rest → At N (n + 1) 0 (d + 1) T x rest) {rest : List Tk} (hw : Wt rest) :
    oneS (zAt N (n + 1)) d (some ((b :: (T ++ [e])) ++ rest)) = some (x, some rest) := by
  have h1 : (zAt N (n + 1)).wh (d + 1) (some (T ++ (e :: rest))) = some (x, some (e :: rest)) := h (e :: rest) (stop_end he hw)
  simp only [oneS, List.cons_append, List.append_assoc, List.nil_append]
  rw [if_neg (by rw [hb.1]; decide), if_pos hb.1, if_pos hb.2]
  unfold innerS
  rw [show sWant [40] (some (b :: (T ++ e :: rest))) = some (T ++ (e :: rest)) by simp only [sWant, sIs, sTl]; rw [tok_of hb]; rfl]
  simp only [withinS]
  rw [if_neg (by omega), h1, bind_some']
  dsimp only
  rw [show sWant [41] (some (e :: rest)) = some rest by simp only [sWant, sIs, sTl]; rw [tok_of he]; rfl]

/-- From level 3 to the least. -/
theorem climb3 (hN : 2 ≤ N) {n : Nat} {d : Int} {T rest : List Tk} {x : Ex} (hp : ∃ t r, T = t :: r ∧ isTok kNot t = false) (hs : Stop 0 rest) (h : ∀ m, n ≤ m → At N m 3 d T x rest) : ∀ m, n + 3 ≤ m → At N m 0 d T x rest :=
  fun m hm => at_down_of N hN (Int.le_refl 0) (by decide) hs (n := n + 1) (fun m hm => by
    obtain ⟨k, rfl⟩ : ∃ k, m = k + 1 := ⟨m - 1, by omega⟩
    exact at_two N hp (h k (by omega)) (hs.mono (by decide))) m (by omega)

theorem climb4 (hN : 2 ≤ N) {n : Nat} {d : Int} {T rest : List Tk} {x : Ex} (hp : ∃ t r, T = t :: r ∧ isTok kNot t = false) (hs : Stop 0 rest) (h : ∀ m, n ≤ m → At N m 4 d T x rest) : ∀ m, n + 4 ≤ m → At N m 0 d T x rest :=
  fun m hm => climb3 N hN hp hs (n := n + 1) (fun m hm => by
    obtain ⟨k, rfl⟩ : ∃ k, m = k + 1 := ⟨m - 1, by omega⟩
    exact at_down N hN (by omega) (h k (by omega)) (hs.mono (by decide))) m (by omega)

theorem climb5 (hN : 2 ≤ N) {n : Nat} {d : Int} {T rest : List Tk} {x : Ex} (hp : ∃ t r, T = t :: r ∧ isTok kNot t = false) (hs : Stop 0 rest) (h : ∀ m, n ≤ m → At N m 5 d T x rest) : ∀ m, n + 5 ≤ m → At N m 0 d T x rest :=
  fun m hm => climb4 N hN hp hs (n := n + 1) (fun m hm => by
    obtain ⟨k, rfl⟩ : ∃ k, m = k + 1 := ⟨m - 1, by omega⟩
    exact at_down N hN (by omega) (h k (by omega)) (hs.mono (by decide))) m (by omega)

/-- A part in brackets. -/
def br (b : Tk) (T : List Tk) (e : Tk) : List Tk := b :: (T ++ [e])

theorem br_plain {b : Tk} (hb : tB b) (T : List Tk) (e : Tk) : Plain (br b T e) := ⟨b, T ++ [e], rfl, tok_ne hb.2 (by decide), tok_ne hb.2 (by decide)⟩

/-- It is read as x, k deep. -/
def Reads (c : Nat) (k : Int) (T : List Tk) (x : Ex) : Prop := ∀ (d : Int) (rest : List Tk) (m : Nat), 0 ≤ d → d + k ≤ 64 → Stop 0 rest → c ≤ m → At N m 0 d T x rest

theorem br_at (hN : 2 ≤ N) {c : Nat} {k : Int} {T : List Tk} {x : Ex} (hr : Reads N c k T x) {b e : Tk} (hb : tB b) (he : tE e) {d : Int} (h0 : 0 ≤ d) (hd : d + (k + 1) ≤ 64) (hk : 0 ≤ k) {lv : Int} (l0 : 0 ≤ lv) (l5 : lv ≤ 5) {rest : List Tk} (hs : Stop lv rest) :
    ∀ m, c + 7 ≤ m → At N m lv d (br b T e) x rest := fun m hm =>
  at_all N hN (br_plain hb T e) (n := c + 1) (fun m hm => by
    obtain ⟨f, rfl⟩ : ∃ f, m = f + 1 := ⟨m - 1, by omega⟩
    exact one_bracket N (by omega) hb he (fun rest hs => hr (d + 1) rest (f + 1) (by omega) (by omega) hs (by omega)) hs.wt) l0 l5 hs m (by omega)

theorem br_one (hN : 2 ≤ N) {c : Nat} {k : Int} {T : List Tk} {x : Ex} (hr : Reads N c k T x) {b e : Tk} (hb : tB b) (he : tE e) {d : Int} (h0 : 0 ≤ d) (hd : d + (k + 1) ≤ 64) (hk : 0 ≤ k) {rest : List Tk} (hw : Wt rest) (m : Nat) (hm : c + 1 ≤ m) :
    oneS (zAt N m) d (some (br b T e ++ rest)) = some (x, some rest) := by
  obtain ⟨f, rfl⟩ : ∃ f, m = f + 1 := ⟨m - 1, by omega⟩
  exact one_bracket N (by omega) hb he (fun rest hs => hr (d + 1) rest (f + 1) (by omega) (by omega) hs (by omega)) hw

theorem op_one {lv : Int} (hl : lv = 0 ∨ lv = 1 ∨ lv = 3 ∨ lv = 4) {t : Tk} (h : opOf lv t.1 t.2.1 ≠ 0) : (∀ l, l ≠ lv → opOf l t.1 t.2.1 = 0) ∧ isTok kIs t = false ∧ ¬ (t.1 = 5 ∧ cmpOp t.2.1 ≠ 0) ∧ isTok [46] t = false := by
  have hk := op_kind h
  unfold opOf at h
  rw [if_pos hk] at h
  have hs : (lv = 0 ∧ t.2.1 = [111, 114]) ∨ (lv = 1 ∧ t.2.1 = [97, 110, 100]) ∨ (lv = 3 ∧ (t.2.1 = [43] ∨ t.2.1 = [45])) ∨ (lv = 4 ∧ (t.2.1 = [42] ∨ t.2.1 = [47])) := by
    rcases hl with rfl | rfl | rfl | rfl
    · left; refine ⟨rfl, ?_⟩; simp at h; exact h
    · right; left; refine ⟨rfl, ?_⟩; simp at h; exact h
    · right; right; left; refine ⟨rfl, ?_⟩
      simp only [if_neg (show ¬ (3 : Int) = 0 by decide), if_neg (show ¬ (3 : Int) = 1 by decide), if_true] at h
      by_cases a : t.2.1 = [43]
      · exact .inl a
      · rw [if_neg a] at h
        by_cases b : t.2.1 = [45]
        · exact .inr b
        · rw [if_neg b] at h; exact absurd rfl h
    · right; right; right; refine ⟨rfl, ?_⟩
      simp only [if_neg (show ¬ (4 : Int) = 0 by decide), if_neg (show ¬ (4 : Int) = 1 by decide), if_neg (show ¬ (4 : Int) = 3 by decide), if_true] at h
      by_cases a : t.2.1 = [42]
      · exact .inl a
      · rw [if_neg a] at h
        by_cases b : t.2.1 = [47]
        · exact .inr b
        · rw [if_neg b] at h; exact absurd rfl h
  have fin : ∀ s, t.2.1 = s → s ≠ kIs → cmpOp s = 0 → s ≠ [46] → isTok kIs t = false ∧ ¬ (t.1 = 5 ∧ cmpOp t.2.1 ≠ 0) ∧ isTok [46] t = false := fun s e h1 h2 h3 => ⟨tok_ne e h1, fun hh => hh.2 (e ▸ h2), tok_ne e h3⟩
  refine ⟨fun l hl' => ?_, ?_⟩
  · unfold opOf
    rw [if_pos hk]
    rcases hs with ⟨rfl, e⟩ | ⟨rfl, e⟩ | ⟨rfl, e | e⟩ | ⟨rfl, e | e⟩ <;> rw [e] <;> simp [hl']
  · rcases hs with ⟨rfl, e⟩ | ⟨rfl, e⟩ | ⟨rfl, e | e⟩ | ⟨rfl, e | e⟩ <;> exact fin _ e (by decide) (by decide) (by decide)

/-- Two parts with an op between. -/
theorem bin_at (hN : 2 ≤ N) {c : Nat} {k : Int} (hk : 0 ≤ k) {T T' : List Tk} {x x' : Ex} (hr : Reads N c k T x) (hr' : Reads N c k T' x') {b e b' e' o : Tk} (hb : tB b) (he : tE e) (hb' : tB b') (he' : tE e') {lv : Int} (hl : lv = 0 ∨ lv = 1 ∨ lv = 3 ∨ lv = 4) (ho : opOf lv o.1 o.2.1 ≠ 0) :
    Reads N (c + 20) (k + 1) (br b T e ++ o :: br b' T' e') (mkX (opOf lv o.1 o.2.1) [x, x'] o.2.2.2.1) := by
  intro d rest m h0 hd hs hm
  obtain ⟨o1, o2, o3, o4⟩ := op_one hl ho
  have hlv : ∀ m, c + 8 ≤ m → At N m lv d (br b T e ++ o :: br b' T' e') (mkX (opOf lv o.1 o.2.1) [x, x'] o.2.2.2.1) rest := by
    intro m hm
    obtain ⟨n, rfl⟩ : ∃ n, m = n + 1 := ⟨m - 1, by omega⟩
    have hs2 : Stop (lv + 1) (o :: (br b' T' e' ++ rest)) := by
      refine ⟨.inr (wt_append hs.wt), fun t r e => ?_⟩
      cases e
      exact ⟨fun l hl' => o1 l (by omega), fun _ => ⟨o2, o3⟩, o4⟩
    have a1 := br_at N hN hr hb he h0 hd hk (lv := lv + 1) (by omega) (by omega) hs2 n (by omega)
    have a2 := br_at N hN hr' hb' he' h0 hd hk (lv := lv + 1) (by omega) (by omega) (hs.mono (by omega)) n (by omega)
    show exprS N (zAt N n) lv d (some ((br b T e ++ o :: br b' T' e') ++ rest)) = _
    unfold exprS
    rw [if_neg (by omega), if_neg (by omega), List.append_assoc, List.cons_append]
    have a1' : (zAt N n).ex (lv + 1) d (some (br b T e ++ o :: (br b' T' e' ++ rest))) = some (x, some (o :: (br b' T' e' ++ rest))) := a1
    rw [a1', bind_some']
    obtain ⟨f, hf⟩ : ∃ f, N = f + 1 := ⟨N - 1, by omega⟩
    dsimp only
    have lp : ∀ g : Nat, 2 ≤ g → loopS (zAt N n) lv d g x (some (o :: (br b' T' e' ++ rest))) = some (mkX (opOf lv o.1 o.2.1) [x, x'] o.2.2.2.1, some rest) := by
      intro g hg
      obtain ⟨g', rfl⟩ : ∃ g', g = g' + 1 + 1 := ⟨g - 2, by omega⟩
      unfold loopS
      dsimp only
      rw [if_neg ho]
      have a2' : (zAt N n).ex (lv + 1) d (some (br b' T' e' ++ rest)) = some (x', some rest) := a2
      rw [a2', bind_some']
      exact loop_stop (hs.mono (by omega)) g'
    exact lp N hN
  have hp : ∃ t r, br b T e ++ o :: br b' T' e' = t :: r ∧ isTok kNot t = false := ⟨b, _, rfl, tok_ne hb.2 (by decide)⟩
  rcases hl with rfl | rfl | rfl | rfl
  · exact hlv m (by omega)
  · obtain ⟨n, rfl⟩ : ∃ n, m = n + 1 := ⟨m - 1, by omega⟩
    exact at_down N hN (by omega) (hlv n (by omega)) hs
  · exact climb3 N hN hp hs hlv m (by omega)
  · exact climb4 N hN hp hs hlv m (by omega)

theorem sg_bracket (hN : 2 ≤ N) {c : Nat} {k : Int} (hk : 0 ≤ k) {T : List Tk} {x : Ex} (hr : Reads N c k T x) {b e : Tk} (hb : tB b) (he : tE e) {d : Int} (h0 : 0 ≤ d) (hd : d + (k + 1) ≤ 64) {rest : List Tk} (hw : Wt rest) (m : Nat) (hm : c + 2 ≤ m) :
    (zAt N m).sg d (some (br b T e ++ rest)) = some (x, some rest) := by
  obtain ⟨n, rfl⟩ : ∃ n, m = n + 1 := ⟨m - 1, by omega⟩
  show signS (zAt N n) d (some (b :: ((T ++ [e]) ++ rest))) = _
  simp only [signS]
  rw [tok_ne hb.2 (by decide), if_neg (by simp)]
  exact br_one N hN hr hb he h0 hd hk hw n (by omega)

theorem nt_bracket (hN : 2 ≤ N) {c : Nat} {k : Int} (hk : 0 ≤ k) {T : List Tk} {x : Ex} (hr : Reads N c k T x) {b e : Tk} (hb : tB b) (he : tE e) {d : Int} (h0 : 0 ≤ d) (hd : d + (k + 1) ≤ 64) {rest : List Tk} (hs : Stop 2 rest) (m : Nat) (hm : c + 8 ≤ m) :
    (zAt N m).nt d (some (br b T e ++ rest)) = some (x, some rest) := by
  obtain ⟨n, rfl⟩ : ∃ n, m = n + 1 := ⟨m - 1, by omega⟩
  have := br_at N hN hr hb he h0 hd hk (lv := 2) (by decide) (by decide) hs (n + 1) (by omega)
  have h' : exprS N (zAt N n) 2 d (some (br b T e ++ rest)) = some (x, some rest) := this
  unfold exprS at h'
  rw [if_pos rfl] at h'
  exact h'

/-- A sign before a part. -/
theorem neg_at (hN : 2 ≤ N) {c : Nat} {k : Int} (hk : 0 ≤ k) {T : List Tk} {x : Ex} (hr : Reads N c k T x) {b e o : Tk} (hb : tB b) (he : tE e) (ho : o.1 = 5 ∧ o.2.1 = [45]) :
    Reads N (c + 20) (k + 2) (o :: br b T e) (mkX 7 [x] o.2.2.2.1) := by
  intro d rest m h0 hd hs hm
  refine climb5 N hN (n := c + 4) ⟨o, _, rfl, tok_ne ho.2 (by decide)⟩ hs (fun m hm => ?_) m (by omega)
  obtain ⟨n, rfl⟩ : ∃ n, m = n + 1 := ⟨m - 1, by omega⟩
  show exprS N (zAt N n) 5 d (some (o :: (br b T e ++ rest))) = _
  unfold exprS
  rw [if_neg (by decide), if_pos rfl]
  simp only [signS]
  rw [tok_of ho, if_pos rfl]
  simp only [withinS]
  rw [if_neg (by omega), sg_bracket N hN hk hr hb he (by omega) (by omega) hs.wt n (by omega)]
  rfl

theorem not_at (hN : 2 ≤ N) {c : Nat} {k : Int} (hk : 0 ≤ k) {T : List Tk} {x : Ex} (hr : Reads N c k T x) {b e o : Tk} (hb : tB b) (he : tE e) (ho : isTok kNot o = true) :
    Reads N (c + 20) (k + 2) (o :: br b T e) (mkX 16 [x] o.2.2.2.1) := by
  intro d rest m h0 hd hs hm
  refine at_down_of N hN (Int.le_refl 0) (by decide) hs (n := c + 10) (fun m hm => ?_) m (by omega)
  obtain ⟨n, rfl⟩ : ∃ n, m = n + 1 := ⟨m - 1, by omega⟩
  show exprS N (zAt N n) 2 d (some (o :: (br b T e ++ rest))) = _
  unfold exprS
  rw [if_pos rfl]
  simp only [notS]
  rw [ho, if_pos rfl]
  simp only [withinS]
  rw [if_neg (by omega), nt_bracket N hN hk hr hb he (by omega) (by omega) (hs.mono (by decide)) n (by omega)]
  rfl

theorem isnull_at (hN : 2 ≤ N) {c : Nat} {k : Int} (hk : 0 ≤ k) {T : List Tk} {x : Ex} (hr : Reads N c k T x) {b e i u : Tk} (hb : tB b) (he : tE e) (hi : isTok kIs i = true) (hu : isTok kNull u = true) (hu2 : isTok kNot u = false) (hi2 : ∀ l, opOf l i.1 i.2.1 = 0) :
    Reads N (c + 20) (k + 1) (br b T e ++ [i, u]) (mkX 17 [x] i.2.2.2.1) := by
  intro d rest m h0 hd hs hm
  refine at_down_of N hN (Int.le_refl 0) (by decide) hs (n := c + 10) (fun m hm => ?_) m (by omega)
  obtain ⟨n, rfl⟩ : ∃ n, m = n + 1 := ⟨m - 1, by omega⟩
  show exprS N (zAt N n) 2 d (some ((br b T e ++ [i, u]) ++ rest)) = _
  unfold exprS
  rw [if_pos rfl]
  have hs3 : Stop 3 (i :: u :: rest) := ⟨.inr (.inr hs.wt), fun t r e => by cases e; exact ⟨fun l _ => hi2 l, fun h => absurd h (by decide), by simp [isTok] at hi ⊢; intro _; rw [hi.2]; decide⟩⟩
  have a : (zAt N n).ex 3 d (some (br b T e ++ (i :: u :: rest))) = some (x, some (i :: u :: rest)) := br_at N hN hr hb he h0 hd hk (lv := 3) (by decide) (by decide) hs3 n (by omega)
  have e1 : (br b T e ++ [i, u]) ++ rest = b :: ((T ++ [e]) ++ (i :: u :: rest)) := by simp [br]
  rw [e1]
  simp only [notS]
  rw [tok_ne hb.2 (by decide), if_neg (by simp)]
  unfold testS
  have a' : (zAt N n).ex 3 d (some (b :: ((T ++ [e]) ++ (i :: u :: rest)))) = some (x, some (i :: u :: rest)) := a
  rw [a', bind_some']
  dsimp only
  rw [hi, if_pos rfl]
  have e2 : sIs kNot (some (u :: rest)) = false := hu2
  have e3 : sTake kNot (some (u :: rest)) = some (u :: rest) := by unfold sTake; rw [e2]; rfl
  have e4 : sWant kNull (some (u :: rest)) = some rest := by simp only [sWant, sIs, sTl]; rw [hu]; rfl
  rw [e2, e3, e4]
  rfl

theorem cmp_at (hN : 2 ≤ N) {c : Nat} {k : Int} (hk : 0 ≤ k) {T T' : List Tk} {x x' : Ex} (hr : Reads N c k T x) (hr' : Reads N c k T' x') {b e b' e' o : Tk} (hb : tB b) (he : tE e) (hb' : tB b') (he' : tE e') (h5 : o.1 = 5) (ho : cmpOp o.2.1 ≠ 0) (hi : isTok kIs o = false) (ho2 : ∀ l, opOf l o.1 o.2.1 = 0) :
    Reads N (c + 20) (k + 1) (br b T e ++ o :: br b' T' e') (mkX (cmpOp o.2.1) [x, x'] o.2.2.2.1) := by
  intro d rest m h0 hd hs hm
  refine at_down_of N hN (Int.le_refl 0) (by decide) hs (n := c + 10) (fun m hm => ?_) m (by omega)
  obtain ⟨n, rfl⟩ : ∃ n, m = n + 1 := ⟨m - 1, by omega⟩
  show exprS N (zAt N n) 2 d (some ((br b T e ++ o :: br b' T' e') ++ rest)) = _
  unfold exprS
  rw [if_pos rfl]
  have hs3 : Stop 3 (o :: (br b' T' e' ++ rest)) := ⟨.inr (wt_append hs.wt), fun t r e => by cases e; exact ⟨fun l _ => ho2 l, fun h => absurd h (by decide), by cases hh : isTok [46] o with | false => rfl | true => exfalso; simp [isTok] at hh; rw [hh.2] at ho; exact ho rfl⟩⟩
  have a : (zAt N n).ex 3 d (some (br b T e ++ (o :: (br b' T' e' ++ rest)))) = some (x, some (o :: (br b' T' e' ++ rest))) := br_at N hN hr hb he h0 hd hk (lv := 3) (by decide) (by decide) hs3 n (by omega)
  have a2 : (zAt N n).ex 3 d (some (br b' T' e' ++ rest)) = some (x', some rest) := br_at N hN hr' hb' he' h0 hd hk (lv := 3) (by decide) (by decide) (hs.mono (by decide)) n (by omega)
  have e1 : (br b T e ++ o :: br b' T' e') ++ rest = b :: ((T ++ [e]) ++ (o :: (br b' T' e' ++ rest))) := by simp [br]
  rw [e1]
  simp only [notS]
  rw [tok_ne hb.2 (by decide), if_neg (by simp)]
  unfold testS
  have a' : (zAt N n).ex 3 d (some (b :: ((T ++ [e]) ++ (o :: (br b' T' e' ++ rest))))) = some (x, some (o :: (br b' T' e' ++ rest))) := a
  rw [a', bind_some']
  dsimp only
  rw [hi, if_neg (by simp), if_pos ⟨h5, ho⟩, a2]
  rfl

/-! ### Leaves -/

/-- What is read as one, whatever stands behind. -/
theorem leaf_reads (hN : 2 ≤ N) {T : List Tk} {x : Ex} {k : Int} {c : Nat} (hp : Plain T) (h : ∀ (d : Int) (rest : List Tk) (m : Nat), 0 ≤ d → d + k ≤ 64 → Stop 0 rest → c ≤ m → oneS (zAt N m) d (some (T ++ rest)) = some (x, some rest)) : Reads N (c + 6) k T x := fun d rest m h0 hd hs hm =>
  at_all N hN hp (n := c) (fun m hm => h d rest m h0 hd hs hm) (by decide) (by decide) hs m (by simpa using hm)

theorem lit_reads (hN : 2 ≤ N) {t : Tk} (h : t.1 = 2 ∨ t.1 = 3 ∨ t.1 = 4) : Reads N 6 0 [t] (Ex.mk 1 t.2.2.1.1 t.2.2.1.2.1 t.2.2.1.2.2.1 [] [] 0 [] 0 t.2.2.2.1) := by
  refine leaf_reads N hN (c := 0) ⟨t, [], rfl, ?_, ?_⟩ fun d rest m _ _ _ _ => ?_
  · unfold isTok; rw [dec_f (show ¬ t.1 = 1 by omega), dec_f (show ¬ t.1 = 5 by omega)]; rfl
  · unfold isTok; rw [dec_f (show ¬ t.1 = 1 by omega), dec_f (show ¬ t.1 = 5 by omega)]; rfl
  · simp only [oneS, List.cons_append, List.nil_append]
    rw [if_pos h]

theorem word_reads (hN : 2 ≤ N) {t : Tk} {x : Ex} (h1 : t.1 = 1) (hm : t.2.1 ≠ [45]) (hn : t.2.1 ≠ kNot) (h : ∀ (Z : ZS) (d : Int) (rest : List Tk), Stop 0 rest → wordS Z d t rest = some (x, some rest)) : Reads N 6 0 [t] x := by
  refine leaf_reads N hN (c := 0) ⟨t, [], rfl, ?_, ?_⟩ fun d rest m _ _ hs _ => ?_
  · cases hh : isTok [45] t with
    | false => rfl
    | true => simp [isTok] at hh; exact absurd hh.2 hm
  · cases hh : isTok kNot t with
    | false => rfl
    | true => simp [isTok] at hh; exact absurd hh.2 hn
  · simp only [oneS, List.cons_append, List.nil_append]
    rw [if_neg (by omega), if_neg (by omega), if_pos h1]
    exact h _ _ _ hs

def kTrue : List UInt8 := [116, 114, 117, 101]
def kCount : List UInt8 := [99, 111, 117, 110, 116]

theorem true_reads (hN : 2 ≤ N) {t : Tk} (h1 : t.1 = 1) (h : t.2.1 = kTrue) : Reads N 6 0 [t] (Ex.mk 1 1 1 t.2.2.1.2.2.1 [] [] 0 [] 0 t.2.2.2.1) :=
  word_reads N hN h1 (by rw [h]; decide) (by rw [h]; decide) fun Z d rest _ => by unfold wordS; rw [if_pos (show t.2.1 = [116, 114, 117, 101] from h)]

theorem null_reads (hN : 2 ≤ N) {t : Tk} (h1 : t.1 = 1) (h : t.2.1 = kNull) : Reads N 6 0 [t] (Ex.mk 1 t.2.2.1.1 t.2.2.1.2.1 t.2.2.1.2.2.1 [] [] 0 [] 0 t.2.2.2.1) :=
  word_reads N hN h1 (by rw [h]; decide) (by rw [h]; decide) fun Z d rest _ => by
    unfold wordS
    rw [if_neg (by rw [h]; decide), if_neg (by rw [h]; decide), if_pos (show t.2.1 = [110, 117, 108, 108] from h)]

/-- No reserved word: none of those that words look for. -/
theorem word_name {Z : ZS} {d : Int} {t : Tk} {r : List Tk} (h1 : t.1 = 1) (h : t.2.1 ∉ resv) : wordS Z d t r =
    (if sIs [46] (some r) then some (Ex.mk 2 0 0 [] t.2.1 (sName (sTake [46] (some r))).1 0 [] 0 t.2.2.2.1, (sName (sTake [46] (some r))).2) else some (Ex.mk 2 0 0 [] [] t.2.1 0 [] 0 t.2.2.2.1, sTake [46] (some r))) := by
  have ne : ∀ s ∈ resv, ¬ t.2.1 = s := fun s hs e => h (e ▸ hs)
  unfold wordS
  rw [if_neg (ne _ (by decide)), if_neg (ne _ (by decide)), if_neg (ne _ (by decide)), if_neg (ne _ (by decide)), if_neg (ne _ (by decide)), if_neg (ne _ (by decide)), if_neg (ne _ (by decide))]
  have e : sName (some (t :: r)) = (t.2.1, some r) := by simp only [sName]; rw [if_pos ⟨h1, h⟩]
  rw [e]

theorem col_reads (hN : 2 ≤ N) {t : Tk} (h1 : t.1 = 1) (h : t.2.1 ∉ resv) (hm : t.2.1 ≠ [45]) : Reads N 6 0 [t] (Ex.mk 2 0 0 [] [] t.2.1 0 [] 0 t.2.2.2.1) :=
  word_reads N hN h1 hm (fun e => h (by rw [e]; decide)) fun Z d rest hs => by
    obtain ⟨u, v, rfl⟩ := hs.wt.cons
    have hd := (hs.2 u v rfl).2.2
    rw [word_name h1 h, show sIs [46] (some (u :: v)) = false from hd, if_neg (by simp)]
    unfold sTake
    rw [show sIs [46] (some (u :: v)) = false from hd]; rfl

theorem qcol_reads (hN : 2 ≤ N) {t p c : Tk} (h1 : t.1 = 1) (h : t.2.1 ∉ resv) (hm : t.2.1 ≠ [45]) (hp : isTok [46] p = true) (hc1 : c.1 = 1) (hc : c.2.1 ∉ resv) : Reads N 6 0 [t, p, c] (Ex.mk 2 0 0 [] t.2.1 c.2.1 0 [] 0 t.2.2.2.1) := by
  refine leaf_reads N hN (c := 0) ⟨t, [p, c], rfl, ?_, ?_⟩ fun d rest m _ _ hs _ => ?_
  · cases hh : isTok [45] t with
    | false => rfl
    | true => simp [isTok] at hh; exact absurd hh.2 hm
  · cases hh : isTok kNot t with
    | false => rfl
    | true => simp [isTok] at hh; exact absurd (by rw [hh.2]; decide) h
  · simp only [oneS, List.cons_append, List.nil_append]
    rw [if_neg (by omega), if_neg (by omega), if_pos h1, word_name h1 h, show sIs [46] (some (p :: c :: rest)) = true from hp, if_pos rfl]
    have e : sTake [46] (some (p :: c :: rest)) = some (c :: rest) := by unfold sTake; rw [show sIs [46] (some (p :: c :: rest)) = true from hp]; rfl
    have e2 : sName (some (c :: rest)) = (c.2.1, some rest) := by simp only [sName]; rw [if_pos ⟨hc1, hc⟩]
    rw [e, e2]

/-- A word that a part in brackets follows. -/
theorem agg_reads (hN : 2 ≤ N) {c : Nat} {k : Int} (hk : 0 ≤ k) {T : List Tk} {x : Ex} (hr : Reads N c k T x) {t b e : Tk} (h1 : t.1 = 1) (hb : tB b) (he : tE e) (op : Int)
    (ho : op = 18 ∧ t.2.1 = kCount ∧ (∃ u v, T = u :: v ∧ ¬ (u.1 = 5 ∧ u.2.1 = [42])) ∨ op = 19 ∧ t.2.1 = [115, 117, 109] ∨ op = 20 ∧ t.2.1 = [109, 105, 110] ∨ op = 21 ∧ t.2.1 = [109, 97, 120]) :
    Reads N (c + 20) (k + 1) (t :: br b T e) (mkX op [x] t.2.2.2.1) := by
  intro d rest m h0 hd hs hm
  have ht : t.2.1 = kCount ∨ t.2.1 = [115, 117, 109] ∨ t.2.1 = [109, 105, 110] ∨ t.2.1 = [109, 97, 120] := by
    rcases ho with ⟨_, h, _⟩ | ⟨_, h⟩ | ⟨_, h⟩ | ⟨_, h⟩
    · exact .inl h
    · exact .inr (.inl h)
    · exact .inr (.inr (.inl h))
    · exact .inr (.inr (.inr h))
  refine at_all N hN (n := c + 1) ⟨t, _, rfl, ?_, ?_⟩ (fun m hm => ?_) (by decide) (by decide) hs m (by simp; omega)
  · rcases ht with h | h | h | h <;> exact tok_ne h (by decide)
  · rcases ht with h | h | h | h <;> exact tok_ne h (by decide)
  · have hin : innerS (zAt N m) d (some (br b T e ++ rest)) = some (x, some rest) := by
      have := br_one N hN hr hb he h0 hd hk hs.wt m hm
      have e1 : (some (br b T e ++ rest) : PS) = some (b :: ((T ++ [e]) ++ rest)) := rfl
      rw [e1] at this ⊢
      simp only [oneS] at this
      rw [if_neg (by rw [hb.1]; decide), if_pos hb.1, if_pos hb.2] at this
      exact this
    show oneS (zAt N m) d (some (t :: (br b T e ++ rest))) = _
    simp only [oneS]
    rw [if_neg (by omega), if_neg (by omega), if_pos h1]
    unfold wordS
    rcases ho with ⟨rfl, h, u, v, rfl, hu⟩ | ⟨rfl, h⟩ | ⟨rfl, h⟩ | ⟨rfl, h⟩
    · rw [if_neg (by rw [h]; decide), if_neg (by rw [h]; decide), if_neg (by rw [h]; decide), if_pos (show t.2.1 = [99, 111, 117, 110, 116] from h)]
      show (if b.1 = 5 ∧ b.2.1 = [40] ∧ u.1 = 5 ∧ u.2.1 = [42] then _ else _) = _
      rw [if_neg (fun hh => hu hh.2.2)]
      show Option.bind (innerS (zAt N m) d (some (br b (u :: v) e ++ rest))) _ = _
      rw [hin]; rfl
    · rw [if_neg (by rw [h]; decide), if_neg (by rw [h]; decide), if_neg (by rw [h]; decide), if_neg (by rw [h]; decide), if_pos h, hin]; rfl
    · rw [if_neg (by rw [h]; decide), if_neg (by rw [h]; decide), if_neg (by rw [h]; decide), if_neg (by rw [h]; decide), if_neg (by rw [h]; decide), if_pos h, hin]; rfl
    · rw [if_neg (by rw [h]; decide), if_neg (by rw [h]; decide), if_neg (by rw [h]; decide), if_neg (by rw [h]; decide), if_neg (by rw [h]; decide), if_neg (by rw [h]; decide), if_pos h, hin]; rfl

theorem star_reads (hN : 2 ≤ N) {t b s e : Tk} (h1 : t.1 = 1) (h : t.2.1 = kCount) (hb : tB b) (hs : s.1 = 5 ∧ s.2.1 = [42]) (he : tE e) : Reads N 6 0 [t, b, s, e] (mkX 18 [] t.2.2.2.1) := by
  refine leaf_reads N hN (c := 0) ⟨t, [b, s, e], rfl, tok_ne h (by decide), tok_ne h (by decide)⟩ fun d rest m _ _ _ _ => ?_
  simp only [oneS, List.cons_append, List.nil_append]
  rw [if_neg (by omega), if_neg (by omega), if_pos h1]
  unfold wordS
  rw [if_neg (by rw [h]; decide), if_neg (by rw [h]; decide), if_neg (by rw [h]; decide), if_pos (show t.2.1 = [99, 111, 117, 110, 116] from h)]
  dsimp only
  rw [if_pos ⟨hb.1, hb.2, hs.1, hs.2⟩, show sWant [41] (some (e :: rest)) = some rest by simp only [sWant, sIs, sTl]; rw [tok_of he]; rfl]

end
end Go.Proofs.YtbikfekdakigiaaGreatDoor.E
