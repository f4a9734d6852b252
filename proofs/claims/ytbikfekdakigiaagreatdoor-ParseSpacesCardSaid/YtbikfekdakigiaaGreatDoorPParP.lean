/-
  Plain laws of the pure functions.
  Conditions: those that each statement prints, and no other.
-/
import Derived.Test.YtbikfekdakigiaaGreatDoorGPSF
import Derived.Test.YtbikfekdakigiaaGreatDoorEvA
set_option linter.unusedVariables false
set_option linter.unusedSimpArgs false
namespace Go.Proofs.YtbikfekdakigiaaGreatDoor.E
open Go.Ev
abbrev Tk := Int × ((List UInt8) × ((Int × (Int × ((List UInt8) × Unit))) × (Int × Unit)))
abbrev Q1t := Int × Int × Int × List UInt8 × List UInt8 × List UInt8 × Int × List Ex × Int × Int × List Tk × Int × Err × Unit
def q (x : Ex) (l : List Tk) (d : Int) (e : Err) : Q1t := (x.op, x.vk, x.vn, x.vs, x.tab, x.name, x.num, x.kids, x.kind, x.at_, l, d, e, ())
theorem q_eta (t : Q1t) : q (Ex.mk t.1 t.2.1 t.2.2.1 t.2.2.2.1 t.2.2.2.2.1 t.2.2.2.2.2.1 t.2.2.2.2.2.2.1 t.2.2.2.2.2.2.2.1 t.2.2.2.2.2.2.2.2.1 t.2.2.2.2.2.2.2.2.2.1) t.2.2.2.2.2.2.2.2.2.2.1 t.2.2.2.2.2.2.2.2.2.2.2.1 t.2.2.2.2.2.2.2.2.2.2.2.2.1 = t := rfl
theorem mk_eta (x : Ex) : Ex.mk x.op x.vk x.vn x.vs x.tab x.name x.num x.kids x.kind x.at_ = x := by cases x; rfl
def isTok (s : List UInt8) (t : Tk) : Bool := (decide (t.1 = 1) || decide (t.1 = 5)) && decide (t.2.1 = s)
theorem cnf {α : Type} (a b : α) : (bif !false then a else b) = a := rfl
theorem cnt {α : Type} (a b : α) : (bif !true then a else b) = b := rfl
theorem ct {α : Type} (a b : α) : (bif true then a else b) = a := rfl
theorem cf {α : Type} (a b : α) : (bif false then a else b) = b := rfl
theorem nth_zero {α : Type} (a : α) (l : List α) : nth (a :: l) 0 = some a := rfl
theorem nth_one {α : Type} (a b : α) (l : List α) : nth (a :: b :: l) 1 = some b := rfl
theorem nth_two {α : Type} (a b c : α) (l : List α) : nth (a :: b :: c :: l) 2 = some c := rfl
theorem is_nil (N : Nat) (s : List UInt8) (t : Tk) (r : List Tk) (d : Int) : pq_is N s (t :: r) d .nil = some (isTok s t, ()) := by
 unfold pq_is pq_is_cps isTok
 rw [nth_zero, bind_some']
 by_cases h1 : t.1 = 1
 · simp [Err.isNil, h1]
 · by_cases h5 : t.1 = 5
   · simp [Err.isNil, h5]
   · simp [Err.isNil, h1, h5]
theorem is_bad (N : Nat) (s : List UInt8) (t : Tk) (r : List Tk) (d : Int) {e : Err} (he : e.isNil = false) : pq_is N s (t :: r) d e = some (false, ()) := by
 unfold pq_is pq_is_cps
 rw [nth_zero, bind_some', cond_f he]
theorem next_eq (N : Nat) (t : Tk) (r : List Tk) (d : Int) (e : Err) : pq_next N (t :: r) d e = some (t.1, t.2.1, t.2.2.1.1, t.2.2.1.2.1, t.2.2.1.2.2.1, t.2.2.2.1, r, d, e, ()) := by
 unfold pq_next pq_next_cps
 rw [nth_zero, bind_some', if_t (by simp; omega)]
 simp
theorem take_nil (N : Nat) (s : List UInt8) (t : Tk) (r : List Tk) (d : Int) : pq_take N s (t :: r) d .nil = some (isTok s t, bif isTok s t then r else t :: r, d, .nil, ()) := by
 unfold pq_take pq_take_cps
 rw [is_nil, bind_some']
 cases h : isTok s t
 · rfl
 · show Option.bind (pq_next N (t :: r) d .nil) _ = _
   rw [next_eq]; rfl
theorem take_bad (N : Nat) (s : List UInt8) (t : Tk) (r : List Tk) (d : Int) {e : Err} (he : e.isNil = false) : pq_take N s (t :: r) d e = some (false, t :: r, d, e, ()) := by
 unfold pq_take pq_take_cps
 rw [is_bad N s t r d he, bind_some']
 rfl
theorem fail_nil (N : Nat) (c : Int) (hc : c ≠ 0) (t : Tk) (r : List Tk) (d : Int) : pq_fail N c (t :: r) d .nil = some (t :: r, d, .fault c t.2.2.2.1 .nil, ()) := by
 unfold pq_fail pq_fail_cps pq_at pq_at_cps fault_New fault_New_cps
 rw [nth_zero]
 show Option.bind (bif decide (c = 0) then _ else _) _ = _
 rw [if_f hc]
 rfl
theorem fail_bad (N : Nat) (c : Int) (l : List Tk) (d : Int) {e : Err} (he : e.isNil = false) : pq_fail N c l d e = some (l, d, e, ()) := by
 unfold pq_fail pq_fail_cps
 rw [cond_f he]
theorem want_nil (N : Nat) (hN : ∃ f, N = f + 2) (s : List UInt8) (t : Tk) (r : List Tk) (d : Int) : pq_want N [s] (t :: r) d .nil = bif isTok s t then some (r, d, .nil, ()) else some (t :: r, d, .fault 171 t.2.2.2.1 .nil, ()) := by
 obtain ⟨f, hf⟩ := hN
 have key : ∀ (R : Type) (k0 : List Tk → Int → Err → Option R) (m : Nat), m = f + 2 → pq_want_l0 N R k0 m [s] 1 0 (t :: r) d .nil = bif isTok s t then k0 r d .nil else k0 (t :: r) d (.fault 171 t.2.2.2.1 .nil) := by
  intro R k0 m hm
  subst hm
  show pq_want_l0B N R (pq_want_l0 N R k0 (f + 1)) k0 [s] 1 0 (t :: r) d .nil = _
  unfold pq_want_l0B
  rw [if_t (by decide), nth_zero, bind_some', take_nil, bind_some']
  cases h : isTok s t
  · dsimp only
    rw [cnf]
    show Option.bind (pq_fail N 171 (t :: r) d .nil) _ = _
    rw [fail_nil N 171 (by decide), bind_some']
    show pq_want_l0B N R (pq_want_l0 N R k0 f) k0 [s] 1 1 (t :: r) d (.fault 171 t.2.2.2.1 .nil) = _
    unfold pq_want_l0B
    rw [if_f (by decide)]; rfl
  · show pq_want_l0B N R (pq_want_l0 N R k0 f) k0 [s] 1 1 r d .nil = _
    unfold pq_want_l0B
    rw [if_f (by decide)]; rfl
 unfold pq_want pq_want_cps
 exact key _ _ N hf
theorem want_bad (N : Nat) (hN : ∃ f, N = f + 2) (s : List UInt8) (t : Tk) (r : List Tk) (d : Int) {e : Err} (he : e.isNil = false) : pq_want N [s] (t :: r) d e = some (t :: r, d, e, ()) := by
 obtain ⟨f, hf⟩ := hN
 have key : ∀ (R : Type) (k0 : List Tk → Int → Err → Option R) (m : Nat), m = f + 2 → pq_want_l0 N R k0 m [s] 1 0 (t :: r) d e = k0 (t :: r) d e := by
  intro R k0 m hm
  subst hm
  show pq_want_l0B N R (pq_want_l0 N R k0 (f + 1)) k0 [s] 1 0 (t :: r) d e = _
  unfold pq_want_l0B
  rw [if_t (by decide), nth_zero, bind_some', take_bad N s t r d he, bind_some']
  dsimp only
  rw [cnf]
  show Option.bind (pq_fail N 171 (t :: r) d e) _ = _
  rw [fail_bad N 171 _ d he, bind_some']
  show pq_want_l0B N R (pq_want_l0 N R k0 f) k0 [s] 1 1 (t :: r) d e = _
  unfold pq_want_l0B
  rw [if_f (by decide)]
 unfold pq_want pq_want_cps
 exact key _ _ N hf
def cmpOp (s : List UInt8) : Int := if s = [61] then 8 else if s = [60, 62] then 9 else if s = [60] then 10 else if s = [60, 61] then 11 else if s = [62] then 12 else if s = [62, 61] then 13 else 0
theorem cmp_eq (N : Nat) (s : List UInt8) : parse_comparison N s = some (cmpOp s, ()) := by
 unfold parse_comparison parse_comparison_cps cmpOp
 simp only [Bool.cond_decide]
 repeat' split
 all_goals rfl
def opOf (level kind : Int) (s : List UInt8) : Int :=
 if kind = 1 ∨ kind = 5 then
  if level = 0 then (if s = [111, 114] then 15 else 0)
  else if level = 1 then (if s = [97, 110, 100] then 14 else 0)
  else if level = 3 then (if s = [43] then 3 else if s = [45] then 4 else 0)
  else if level = 4 then (if s = [42] then 5 else if s = [47] then 6 else 0) else 0
 else 0
theorem op_j0 (N : Nat) {R : Type} (k0 : Int → Int → List UInt8 → Int → Int → List UInt8 → Int → Option R) (level : Int) {kind : Int} (s : List UInt8) (a b : Int) (c : List UInt8) (d : Int) (hk : kind = 1 ∨ kind = 5) :
 parse_op_j0 N R k0 level kind s a b c d = k0 (opOf level kind s) kind s a b c d := by
 unfold parse_op_j0 opOf
 rw [if_pos hk]
 simp only [Bool.cond_decide]
 repeat' split
 all_goals rfl
theorem op_eq (N : Nat) (kind : Int) (s : List UInt8) (a b : Int) (c : List UInt8) (d level : Int) : parse_op N kind s a b c d level = some (opOf level kind s, ()) := by
 unfold parse_op parse_op_cps
 by_cases h1 : kind = 1
 · rw [cond_f (by simp [h1]), op_j0 N _ level s a b c d (.inl h1)]
 · rw [cond_t (by simp [h1])]
   by_cases h5 : kind = 5
   · rw [cond_f (by simp [h5]), op_j0 N _ level s a b c d (.inr h5)]
   · rw [cond_t (by simp [h5])]; unfold opOf; rw [if_neg (by simp [h1, h5])]
def resv : List (List UInt8) := [[115, 101, 108, 101, 99, 116], [102, 114, 111, 109], [106, 111, 105, 110], [111, 110], [119, 104, 101, 114, 101], [103, 114, 111, 117, 112], [98, 121], [111, 114, 100, 101, 114], [97, 115, 99], [100, 101, 115, 99], [108, 105, 109, 105, 116], [105, 110, 115, 101, 114, 116], [105, 110, 116, 111], [118, 97, 108, 117, 101, 115], [117, 112, 100, 97, 116, 101], [115, 101, 116], [100, 101, 108, 101, 116, 101], [97, 110, 100], [111, 114], [110, 111, 116], [105, 115], [110, 117, 108, 108], [116, 114, 117, 101], [102, 97, 108, 115, 101], [99, 111, 117, 110, 116], [115, 117, 109], [109, 105, 110], [109, 97, 120]]
theorem index_l0 (N : Nat) {R : Type} (k0 : Option R) (k1 : Int → Option R) (l : List (List UInt8)) (s : List UInt8) (r : Option R) (hl : l.length < 1000)
 (h0 : s ∉ l → k0 = r) (h1 : ∀ i : Nat, s ∈ l → k1 (i : Int) = r) : ∀ (m i : Nat), i ≤ l.length → (∀ j (hj : j < i) (hj' : j < l.length), l[j] ≠ s) → l.length - i < m → sx__l0 N R k0 k1 m l s (l.length : Int) (i : Int) = r
 | 0, i, _, _, hm => absurd hm (Nat.not_lt_zero _)
 | m + 1, i, hi, hp, hm => by
  show sx__l0B N R (sx__l0 N R k0 k1 m) k0 k1 l s (l.length : Int) (i : Int) = _
  unfold sx__l0B
  by_cases h : i < l.length
  · rw [if_t (by omega), nth_lt h, bind_some']
    by_cases e : s = l[i]
    · rw [if_t e]; exact h1 i (e ▸ List.getElem_mem h)
    · rw [if_f e, show IntKind.wrap .i64 ((i : Int) + 1) = ((i + 1 : Nat) : Int) by rw [wrap_i64]; omega]
      refine index_l0 N k0 k1 l s r hl h0 h1 m (i + 1) h (fun j hj hj' => ?_) (by omega)
      rcases Nat.lt_succ_iff_lt_or_eq.1 hj with h2 | h2
      · exact hp j h2 hj'
      · subst h2; exact fun h3 => e h3.symm
  · rw [if_f (by omega)]
    refine h0 fun hm' => ?_
    obtain ⟨j, hj, e⟩ := List.getElem_of_mem hm'
    exact hp j (by omega) hj e
theorem reserved_eq (N : Nat) (hN : 1000 ≤ N) (s : List UInt8) : parse_reserved N s = some (decide (s ∈ resv), ()) := by
 have key : sx_ N resv s = some (if s ∈ resv then (resv.idxOf s : Int) else -1, ()) ∨ True := .inr trivial
 unfold parse_reserved parse_reserved_cps
 show Option.bind (slices_Contains_string_string N resv s) _ = _
 unfold slices_Contains_string_string slices_Contains_string_string_cps sx_ sx__cps
 have h2 : ∃ z : Int, sx__l0 N (Int × Unit) (some (-1, ())) (fun v3 => some (v3, ())) N resv s (resv.length : Int) 0 = some (z, ()) ∧ decide (0 ≤ z) = decide (s ∈ resv) := by
  by_cases hs : s ∈ resv
  · have : ∃ i : Nat, sx__l0 N (Int × Unit) (some (-1, ())) (fun v3 => some (v3, ())) N resv s (resv.length : Int) 0 = some ((i : Int), ()) := by
     have aux : ∀ (m i : Nat), i ≤ resv.length → resv.length - i < m → (∃ j, i ≤ j ∧ ∃ h : j < resv.length, resv[j] = s) → ∃ k : Nat, sx__l0 N (Int × Unit) (some (-1, ())) (fun v3 => some (v3, ())) m resv s (resv.length : Int) (i : Int) = some ((k : Int), ()) := by
      intro m
      induction m with
      | zero => intro i _ hm _; omega
      | succ m ih =>
       intro i hi hm ⟨j, hij, hj, e⟩
       show ∃ k : Nat, sx__l0B N _ (sx__l0 N _ (some (-1, ())) (fun v3 => some (v3, ())) m) _ _ resv s (resv.length : Int) (i : Int) = _
       unfold sx__l0B
       have hlt : i < resv.length := by omega
       rw [if_t (by omega), nth_lt hlt, bind_some']
       by_cases e1 : s = resv[i]
       · exact ⟨i, by rw [if_t e1]⟩
       · rw [if_f e1, show IntKind.wrap .i64 ((i : Int) + 1) = ((i + 1 : Nat) : Int) by rw [wrap_i64]; have : resv.length = 28 := rfl; omega]
         refine ih (i + 1) hlt (by omega) ⟨j, ?_, hj, e⟩
         rcases Nat.lt_or_eq_of_le hij with h | h
         · exact h
         · subst h; exact absurd e.symm e1
     obtain ⟨j, hj, e⟩ := List.getElem_of_mem hs
     exact aux N 0 (by omega) (by have : resv.length = 28 := rfl; omega) ⟨j, by omega, hj, e⟩
    obtain ⟨i, hi⟩ := this
    exact ⟨i, hi, by simp [hs]⟩
  · refine ⟨-1, ?_, by simp [hs]⟩
    exact index_l0 N _ _ resv s _ (by decide) (fun _ => rfl) (fun _ h => absurd h hs) N 0 (by omega) (fun j hj => absurd hj (Nat.not_lt_zero j)) (by have : resv.length = 28 := rfl; omega)
 obtain ⟨z, hz, e⟩ := h2
 rw [hz]
 show some (decide (0 ≤ z), ()) = _
 rw [e]
theorem name_nil (N : Nat) (hN : 1000 ≤ N) (t : Tk) (r : List Tk) (d : Int) : pq_name N (t :: r) d .nil = if t.1 = 1 ∧ t.2.1 ∉ resv then some (t.2.1, r, d, .nil, ()) else some ([], t :: r, d, .fault 171 t.2.2.2.1 .nil, ()) := by
 unfold pq_name pq_name_cps
 rw [nth_zero, cond_f (by rfl), bind_some', bind_some', fail_nil N 171 (by decide), bind_some', reserved_eq N hN, bind_some']
 by_cases h1 : t.1 = 1
 · rw [cond_f (by simp [h1])]
   by_cases h2 : t.2.1 ∈ resv
   · rw [if_t h2, if_neg (by simp [h2])]
   · rw [if_f h2, if_pos ⟨h1, h2⟩, next_eq]; rfl
 · rw [cond_t (by simp [h1]), if_neg (by simp [h1])]
theorem name_bad (N : Nat) (l : List Tk) (d : Int) {e : Err} (he : e.isNil = false) : pq_name N l d e = some ([], l, d, e, ()) := by
 unfold pq_name pq_name_cps
 rw [cond_t (by simp [he]), fail_bad N 171 l d he]; rfl
end Go.Proofs.YtbikfekdakigiaaGreatDoor.E
