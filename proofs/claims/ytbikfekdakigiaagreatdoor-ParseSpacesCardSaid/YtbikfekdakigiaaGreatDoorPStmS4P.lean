/-
  Plain laws of the pure functions.
  Conditions: those that each statement prints, and no other.
-/
import Derived.Test.YtbikfekdakigiaaGreatDoorPStmS3P
import Derived.Test.YtbikfekdakigiaaGreatDoorPMLexLP
set_option linter.unusedVariables false
set_option linter.unusedSimpArgs false
namespace Go.Proofs.YtbikfekdakigiaaGreatDoor.E
open Go.Ev
set_option maxRecDepth 100000
abbrev PT := Int × Bs × Bs × Int × Int × Int × Bs × Bs × Bs × Int × List Ex × Int × Int × Int × Int × Int × Bs × Bs × Bs × Int × List Ex × Int × Int × List Ex × List Ex × List OrdT × Int × List (List Ex) × List SetT × Int × Err × Unit
def pt (s : Stm) (S : List SetT) (a : Int) (e : Err) : PT :=
 (s.kind, s.table, s.join, s.on.op, s.on.vk, s.on.vn, s.on.vs, s.on.tab, s.on.name, s.on.num, s.on.kids, s.on.kind, s.on.at_, s.whr.op, s.whr.vk, s.whr.vn, s.whr.vs, s.whr.tab, s.whr.name, s.whr.num, s.whr.kids, s.whr.kind, s.whr.at_, s.items, s.group, s.order, s.limit, s.rows, S, a, e, ())
def noStm : Stm := ⟨0, [], [], z0, z0, [], [], [], 0, [], []⟩
theorem ended_st {N : Nat} {st : PS} {l : List Tk} {e : Err} (h : Rep st l e) : ∃ l' e', pq_ended N l 0 e = some (e', l', 0, e', ()) ∧ e'.isNil = endT6 st ∧ (endT6 st = true → e' = .nil) := by
 unfold pq_ended pq_ended_cps
 cases st with
 | none =>
  obtain ⟨he, hl⟩ := h
  obtain ⟨t, r, rfl⟩ := List.exists_cons_of_ne_nil hl
  rw [nth_zero, bind_some', fail_bad N 171 _ 0 he, bind_some']
  by_cases k : t.1 = 6
  · rw [cond_f (by simp [k])]; exact ⟨_, _, rfl, he, fun h => by cases h⟩
  · rw [cond_t (by simp [k])]; exact ⟨_, _, rfl, he, fun h => by cases h⟩
 | some l' =>
  obtain ⟨rfl, rfl, hw⟩ := h
  obtain ⟨t, r, rfl⟩ := hw.cons
  rw [nth_zero, bind_some', fail_nil N 171 (by decide), bind_some']
  by_cases k : t.1 = 6
  · rw [cond_f (by simp [k])]; exact ⟨_, _, rfl, by simp [endT6, k, Err.isNil], fun _ => rfl⟩
  · rw [cond_t (by simp [k])]; exact ⟨_, _, rfl, by simp [endT6, k, Err.isNil], fun h => absurd (of_decide_eq_true h) k⟩
theorem ended_take {N : Nat} {st : PS} {l : List Tk} {e : Err} (h : Rep st l e) {R : Type} {g : Err → Option R} :
 ∃ e', (Option.bind (pq_take N [59] l 0 e) fun v7 => Option.bind (pq_ended N v7.2.1 v7.2.2.1 v7.2.2.2.1) fun v8 => g v8.1) = g e' ∧ e'.isNil = endT6 (sTake [59] st) ∧ (endT6 (sTake [59] st) = true → e' = .nil) := by
 obtain ⟨l1, e1, h1, r1⟩ := take_st N [59] 0 h
 rw [h1, bind_some']
 dsimp only
 obtain ⟨l2, e2, h2, k1, k2⟩ := ended_st (N := N) r1
 rw [h2, bind_some']
 exact ⟨e2, rfl, k1, k2⟩
theorem lim_rows {s : Stm} {st : PS} : (limT s st).1.rows = s.rows := by
 unfold limT; repeat' split
 all_goals rfl
theorem order_rows {N : Nat} {s : Stm} {st : PS} : (orderT N s st).1.rows = s.rows := by
 unfold orderT; split
 · exact lim_rows
 · exact lim_rows
theorem group_rows {N : Nat} {s : Stm} {st : PS} : (groupT N s st).1.rows = s.rows := by
 unfold groupT; dsimp only; split
 · exact order_rows
 · exact order_rows
theorem from_rows {N : Nat} {s : Stm} {st : PS} : (fromT N s st).1.rows = s.rows := by
 unfold fromT; dsimp only; split
 · exact group_rows
 · exact group_rows
theorem sel_rows {N : Nat} {st : PS} : (selT N st).1.rows = [] := by
 unfold selT; split
 · exact from_rows
 · exact from_rows
theorem parse_ok {N : Nat} (hN : 1000000 < N) {s : Bs} {l : List L.TT} (hl : s.length ≤ 1000) (hx : L.Lx 0 s l) :
 (∃ Z S a, parseT N (l ++ [L.endT s.length]) = some Z ∧ parse_Parse N s = some (pt Z.1 S a .nil) ∧ bare S = Z.2) ∨
  (parseT N (l ++ [L.endT s.length]) = none ∧ ∃ e, e.isNil = false ∧ parse_Parse N s = some (pt noStm [] 0 e)) := by
 have hN1 : 1200 ≤ N := by omega
 have hlen := L.Lx_len hx
 have hw : Wt (l ++ [L.endT s.length]) := by
  clear hx hlen
  induction l with
  | nil => exact .inl rfl
  | cons t r ih => exact .inr ih
 have hL : lenS (some (l ++ [L.endT s.length])) ≤ 1100 := by simp [lenS]; omega
 have hr0 : Rep (some (l ++ [L.endT s.length])) (l ++ [L.endT s.length]) .nil := .ok hw
 unfold parse_Parse parse_Parse_cps parseT bodyT
 rw [L.Lex_ok hN hl hx, bind_some']
 dsimp only
 rw [isNil_nil, cnt, cnt]
 generalize some (l ++ [L.endT s.length]) = st0 at *
 generalize l ++ [L.endT s.length] = l0 at *
 have fin : ∀ (st : PS) (l1 : List Tk) (e1 : Err) (Z : Stm × List (Bs × Ex)) (S : List SetT) (a : Int), Rep st l1 e1 → bare S = Z.2 →
  ∀ {r : Option PT}, r = (Option.bind (pq_take N [59] l1 0 e1) fun v7 => Option.bind (pq_ended N v7.2.1 v7.2.2.1 v7.2.2.2.1) fun v8 => (fun e => bif (!(Err.isNil e)) then some (pt noStm [] 0 e) else some (pt Z.1 S a .nil)) v8.1) →
  (∃ Z' S' a', (if endT6 (sTake [59] st) = true then some Z else none) = some Z' ∧ r = some (pt Z'.1 S' a' .nil) ∧ bare S' = Z'.2) ∨
  ((if endT6 (sTake [59] st) = true then some Z else none) = none ∧ ∃ e, e.isNil = false ∧ r = some (pt noStm [] 0 e)) := by
  intro st l1 e1 Z S a h1 hS r hr
  obtain ⟨e2, h2, k1, k2⟩ := ended_take (N := N) h1 (g := fun e => bif (!(Err.isNil e)) then some (pt noStm [] 0 e) else some (pt Z.1 S a .nil))
  rw [hr, h2]
  cases hb : endT6 (sTake [59] st)
  · rw [hb] at k1
    rw [k1, cnf, if_neg (by simp)]
    exact .inr ⟨rfl, e2, k1, rfl⟩
  · rw [hb] at k1
    rw [k1, cnt, if_pos rfl]
    exact .inl ⟨Z, S, a, rfl, rfl, hS⟩
 obtain ⟨l1, e1, h1, r1⟩ := take_st N kwSelect 0 hr0
 rw [show pq_take N [115, 101, 108, 101, 99, 116] l0 0 .nil = _ from h1, bind_some']
 dsimp only
 by_cases h : sIs kwSelect st0 = true
 · rw [if_pos h, h, ct]
   rw [sTake_t h] at r1
   have ht := tl_len h
   obtain ⟨l2, e2, a, h2, r2⟩ := sel_st hN1 (by omega) r1
   rw [h2]
   refine fin _ l2 e2 ((selT N (sTl st0)).1, []) [] a r2 rfl ?_
   unfold pt
   rw [sel_rows]
   rfl
 rw [if_neg h, Bool.eq_false_iff.2 h, cf]
 rw [sTake_f h] at r1
 clear h h1
 obtain ⟨l2, e2, h2, r2⟩ := take_st N kwInsert 0 r1
 rw [show pq_take N [105, 110, 115, 101, 114, 116] l1 0 e1 = _ from h2, bind_some']
 dsimp only
 by_cases h : sIs kwInsert st0 = true
 · rw [if_pos h, h, ct]
   rw [sTake_t h] at r2
   have ht := tl_len h
   obtain ⟨l3, e3, a, h3, r3⟩ := ins_st hN1 (by omega) r2
   rw [h3, bind_some']
   exact fin _ l3 e3 ((insT N (sTl st0)).1, []) [] a r3 rfl rfl
 rw [if_neg h, Bool.eq_false_iff.2 h, cf]
 rw [sTake_f h] at r2
 clear h h2
 obtain ⟨l3, e3, h3, r3⟩ := take_st N kwUpdate 0 r2
 rw [show pq_take N [117, 112, 100, 97, 116, 101] l2 0 e2 = _ from h3, bind_some']
 dsimp only
 by_cases h : sIs kwUpdate st0 = true
 · rw [if_pos h, h, ct]
   rw [sTake_t h] at r3
   have ht := tl_len h
   obtain ⟨l4, e4, a, S, h4, b4, r4⟩ := upd_st hN1 (by omega) r3
   rw [h4, bind_some']
   exact fin _ l4 e4 (updT N (sTl st0)).1 S a r4 b4 rfl
 rw [if_neg h, Bool.eq_false_iff.2 h, cf]
 rw [sTake_f h] at r3
 clear h h3
 obtain ⟨l4, e4, h4, r4⟩ := take_st N kwDelete 0 r3
 rw [show pq_take N [100, 101, 108, 101, 116, 101] l3 0 e3 = _ from h4, bind_some']
 dsimp only
 by_cases h : sIs kwDelete st0 = true
 · rw [if_pos h, h, ct]
   rw [sTake_t h] at r4
   have ht := tl_len h
   obtain ⟨l5, e5, a, l6, e6, h6, r6⟩ := del_st hN1 (R := PT) (st := sTl st0) (by omega) r4 (g := fun v19 v20 => Option.bind (pq_take N [59] v20.2.2.2.2.2.2.2.2.2.2.1 v20.2.2.2.2.2.2.2.2.2.2.2.1 v20.2.2.2.2.2.2.2.2.2.2.2.2.1) fun v21 =>
    (Option.bind (pq_ended N v21.2.1 v21.2.2.1 v21.2.2.2.1) fun v22 =>
    (bif (!(Err.isNil v22.1)) then some (pt noStm [] 0 v22.1) else
     some (v19.2.2.2.1, v19.2.2.2.2.1, v19.2.2.2.2.2.1, v19.2.2.2.2.2.2.1, v19.2.2.2.2.2.2.2.1, v19.2.2.2.2.2.2.2.2.1, v19.2.2.2.2.2.2.2.2.2.1, v19.2.2.2.2.2.2.2.2.2.2.1, v19.2.2.2.2.2.2.2.2.2.2.2.1, v19.2.2.2.2.2.2.2.2.2.2.2.2.1, [], v19.2.2.2.2.2.2.2.2.2.2.2.2.2.1, v19.2.2.2.2.2.2.2.2.2.2.2.2.2.2.1, v20.1, v20.2.1, v20.2.2.1, v20.2.2.2.1, v20.2.2.2.2.1, v20.2.2.2.2.2.1, v20.2.2.2.2.2.2.1, v20.2.2.2.2.2.2.2.1, v20.2.2.2.2.2.2.2.2.1, v20.2.2.2.2.2.2.2.2.2.1, [], [], [], v19.2.2.2.2.2.2.2.2.2.2.2.2.2.2.2.2.2.2.2.2.2.2.2.2.1, [], [], v19.2.2.2.2.2.2.2.2.2.2.2.2.2.2.2.2.2.2.2.2.2.2.2.2.2.1, Err.nil, ()))))
   exact fin _ l6 e6 ((delT N (sTl st0)).1, []) [] a r6 rfl h6
 rw [if_neg h, Bool.eq_false_iff.2 h, cf]
 rw [sTake_f h] at r4
 obtain ⟨l5, e5, h5, r5⟩ := fail_st N 171 (by decide) 0 r4
 rw [h5, bind_some']
 obtain ⟨e6, h6, k1, k2⟩ := ended_take (N := N) r5 (g := fun e => bif (!(Err.isNil e)) then some (pt noStm [] 0 e) else some (pt (stm0 0) [] 0 .nil))
 rw [if_neg (by decide)]
 have k1 : e6.isNil = false := k1
 refine .inr ⟨rfl, e6, k1, ?_⟩
 refine h6.trans ?_
 rw [k1, cnf]
theorem parse_no {N : Nat} (hN : 1000000 < N) {s : Bs} (h : s.length ≤ 1000 → ∀ l, ¬ L.Lx 0 s l) : ∃ e, e.isNil = false ∧ parse_Parse N s = some (pt noStm [] 0 e) := by
 rcases L.Lex_eq hN s with ⟨h1, l, h2, _⟩ | ⟨_, p, h2⟩
 · exact absurd h2 (h h1 l)
 · refine ⟨.fault 171 p (.fault 161 p .nil), rfl, ?_⟩
   unfold parse_Parse parse_Parse_cps
   rw [h2]
   rfl
end Go.Proofs.YtbikfekdakigiaaGreatDoor.E
