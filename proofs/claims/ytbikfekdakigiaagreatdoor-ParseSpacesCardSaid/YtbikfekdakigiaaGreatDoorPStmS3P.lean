/-
  Plain laws of the pure functions.
  Conditions: those that each statement prints, and no other.
-/
import Derived.Test.YtbikfekdakigiaaGreatDoorPStmS2P
set_option linter.unusedVariables false
set_option linter.unusedSimpArgs false
namespace Go.Proofs.YtbikfekdakigiaaGreatDoor.E
open Go.Ev
set_option maxRecDepth 100000
def bare (l : List SetT) : List (Bs × Ex) := l.map fun x => (x.1, x.2.1)
abbrev KIns (R : Type) := List Tk → Int → Err → Int → Bs → Bs → Int → Int → Int → Bs → Bs → Bs → Int → Int → Int → Int → Int → Int → Bs → Bs → Bs → Int → Int → Int → Int → List (List Ex) → Int → Option R
abbrev KUpd (R : Type) := List Tk → Int → Err → Int → Bs → Bs → Int → Int → Int → Bs → Bs → Bs → Int → Int → Int → Int → Int → Int → Bs → Bs → Bs → Int → Int → Int → Int → List SetT → Int → Option R
def insL (N : Nat) : Nat → List (List Ex) → PS → List (List Ex) × PS
 | 0, acc, st => (acc, st)
 | n + 1, acc, st => match sWant [40] st with
  | none => (acc, none)
  | some l =>
   let y := listT N (some l)
   let st2 := sWant [41] y.2
   if sIs [44] st2 = true then insL N n (acc ++ [y.1]) (sTl st2) else (acc ++ [y.1], st2)
def insT (N : Nat) (st : PS) : Stm × PS :=
 let n := sName (sWant kwInto st)
 let y := insL N (N - 1) [] (sWant kwValues n.2)
 ({ stm0 2 with table := n.1, rows := y.1 }, y.2)
def updL (N : Nat) : Nat → List (Bs × Ex) → PS → List (Bs × Ex) × PS
 | 0, acc, st => (acc, st)
 | n + 1, acc, st =>
  let m := sName st
  let y := wholeT N (sWant [61] m.2)
  if sIs [44] y.2 = true then updL N n (acc ++ [(m.1, y.1)]) (sTl y.2) else (acc ++ [(m.1, y.1)], y.2)
def updT (N : Nat) (st : PS) : (Stm × List (Bs × Ex)) × PS :=
 let n := sName st
 let y := updL N (N - 1) [] (sWant kwSet n.2)
 let w := whereT N kwWhere y.2
 (({ stm0 3 with table := n.1, whr := w.1 }, y.1), w.2)
def delT (N : Nat) (st : PS) : Stm × PS :=
 let n := sName (sWant kwFrom st)
 let w := whereT N kwWhere n.2
 ({ stm0 4 with table := n.1, whr := w.1 }, w.2)
def bodyT (N : Nat) (st : PS) : (Stm × List (Bs × Ex)) × PS :=
 if sIs kwSelect st = true then (((selT N (sTl st)).1, []), (selT N (sTl st)).2)
 else if sIs kwInsert st = true then (((insT N (sTl st)).1, []), (insT N (sTl st)).2)
 else if sIs kwUpdate st = true then updT N (sTl st)
 else if sIs kwDelete st = true then (((delT N (sTl st)).1, []), (delT N (sTl st)).2)
 else ((stm0 0, []), none)
def endT6 (st : PS) : Bool := match st with
 | some (t :: _) => decide (t.1 = 6)
 | _ => false
def parseT (N : Nat) (l : List Tk) : Option (Stm × List (Bs × Ex)) := if endT6 (sTake [59] (bodyT N (some l)).2) = true then some (bodyT N (some l)).1 else none
section
variable {N : Nat} (hN : 1200 ≤ N)
include hN
theorem ins_loop {R : Type} {k : KIns R} {kd lim a : Int} {tb : Bs} : ∀ (n : Nat) (acc : List (List Ex)) (st : PS) (l : List Tk) (e : Err) (m : Nat), lenS st < n → n < m → lenS st ≤ 1100 → acc.length + lenS st ≤ 2000 → Rep st l e →
 ∃ l' e', pq_inserts_l0 N R k k m true l 0 e kd tb [] 0 0 0 [] [] [] 0 0 0 0 0 0 [] [] [] 0 0 0 lim acc a = k l' 0 e' kd tb [] 0 0 0 [] [] [] 0 0 0 0 0 0 [] [] [] 0 0 0 lim (insL N n acc st).1 a ∧ Rep (insL N n acc st).2 l' e'
 | 0, _, _, _, _, _, hn, _, _, _, _ => absurd hn (Nat.not_lt_zero _)
 | n + 1, acc, st, l, e, m, hn, hm, hL, ha, hr => by
  have hN2 : ∃ f, N = f + 2 := ⟨N - 2, by omega⟩
  obtain ⟨m, rfl⟩ : ∃ m', m = m' + 1 := ⟨m - 1, by omega⟩
  show ∃ l' e', pq_inserts_l0B N R (pq_inserts_l0 N R k k m) k k true l 0 e kd tb [] 0 0 0 [] [] [] 0 0 0 0 0 0 [] [] [] 0 0 0 lim acc a = _ ∧ _
  unfold pq_inserts_l0B insL
  rw [ct]
  obtain ⟨l1, e1, h1, r1⟩ := want_st N hN2 [40] 0 hr
  rw [h1, bind_some']
  dsimp only
  have hw := sWant_len [40] st
  cases hst : sWant [40] st with
  | none =>
   rw [hst] at r1
   rw [r1.1, cnf]
   exact ⟨l1, e1, rfl, r1⟩
  | some l0 =>
   rw [hst] at r1
   have hl0 := hw l0 hst
   have he := r1.2.1
   rw [he, isNil_nil, cnt]
   rw [he] at r1
   unfold pq_inserts_r1
   have hl1 : lenS (some l0) = l0.length := rfl
   obtain ⟨l2, e2, h2, r2, ⟨q2, _⟩, _⟩ := list_st hN (by omega) r1
   rw [h2, bind_some']
   dsimp only
   rw [cond_t (room_le (by decide) (by simp; omega))]
   obtain ⟨l3, e3, h3, r3⟩ := want_st N hN2 [41] 0 r2
   rw [h3, bind_some']
   dsimp only
   obtain ⟨l4, e4, h4, r4⟩ := take_st N [44] 0 r3
   rw [h4, bind_some']
   dsimp only
   have hw2 := sWant_le [41] (listT N (some l0)).2
   by_cases hs : sIs [44] (sWant [41] (listT N (some l0)).2) = true
   · rw [if_pos hs, hs]
     rw [sTake_t hs] at r4
     have ht := tl_len hs
     exact ins_loop (k := k) n (acc ++ [(listT N (some l0)).1]) _ l4 e4 m (by omega) (by omega) (by omega) (by simp; omega) r4
   · rw [if_neg hs, Bool.eq_false_iff.2 hs]
     rw [sTake_f hs] at r4
     obtain ⟨m, rfl⟩ : ∃ m', m = m' + 1 := ⟨m - 1, by omega⟩
     refine ⟨l4, e4, ?_, r4⟩
     show pq_inserts_l0B N R (pq_inserts_l0 N R k k m) k k false l4 0 e4 kd tb [] 0 0 0 [] [] [] 0 0 0 0 0 0 [] [] [] 0 0 0 lim (acc ++ [(listT N (some l0)).1]) a = _
     unfold pq_inserts_l0B
     rw [cf]
theorem ins_st {st : PS} {l : List Tk} {e : Err} (hL : lenS st ≤ 1100) (h : Rep st l e) : ∃ l' e' a', pq_inserts N l 0 e 2 [] [] 0 0 0 [] [] [] 0 0 0 0 0 0 [] [] [] 0 0 0 (-1) 0 = some (l', (0, (e', (2, ((insT N st).1.table, ([], (0, (0, (0, ([], ([], ([], (0, (0, (0, (0, (0, (0, ([], ([], ([], (0, (0, (0, (-1, ((insT N st).1.rows, (a', ()))))))))))))))))))))))))))) ∧ Rep (insT N st).2 l' e' := by
 have hN2 : ∃ f, N = f + 2 := ⟨N - 2, by omega⟩
 have hN1 : 1000 ≤ N := by omega
 unfold pq_inserts pq_inserts_cps insT
 obtain ⟨l1, e1, h1, r1⟩ := want_st N hN2 kwInto 0 h
 rw [show pq_want N [[105, 110, 116, 111]] l 0 e = _ from h1, bind_some']
 unfold pq_table_1 pq_table_1_cps
 dsimp only
 obtain ⟨a1, ha⟩ := at_st (N := N) (d := 0) r1
 rw [ha, bind_some']
 obtain ⟨l2, e2, h2, r2⟩ := name_st N hN1 0 r1
 rw [h2, bind_some', bind_some']
 dsimp only
 obtain ⟨l3, e3, h3, r3⟩ := want_st N hN2 kwValues 0 r2
 rw [show pq_want N [[118, 97, 108, 117, 101, 115]] l2 0 e2 = _ from h3, bind_some']
 dsimp only
 have q1 := sWant_le kwInto st
 have q2 := name_len (sWant kwInto st)
 have q3 := sWant_le kwValues (sName (sWant kwInto st)).2
 obtain ⟨l4, e4, h4, r4⟩ := ins_loop hN (k := fun a0 a1 a2 a3 a4 a5 a6 a7 a8 a9 a10 a11 a12 a13 a14 a15 a16 a17 a18 a19 a20 a21 a22 a23 a24 a25 a26 => some (a0, (a1, (a2, (a3, (a4, (a5, (a6, (a7, (a8, (a9, (a10, (a11, (a12, (a13, (a14, (a15, (a16, (a17, (a18, (a19, (a20, (a21, (a22, (a23, (a24, (a25, (a26, ())))))))))))))))))))))))))))) (kd := 2) (lim := -1) (a := a1) (tb := (sName (sWant kwInto st)).1) (N - 1) [] _ l3 e3 N (by omega) (by omega) (by omega) (by simp; omega) r3
 exact ⟨l4, e4, a1, h4, r4⟩
theorem upd_loop {R : Type} {k : KUpd R} {kd lim a : Int} {tb : Bs} : ∀ (n : Nat) (acc : List SetT) (st : PS) (l : List Tk) (e : Err) (m : Nat), lenS st < n → n < m → lenS st ≤ 1100 → acc.length + lenS st ≤ 2000 → Rep st l e →
 ∃ l' e' S, pq_updates_l0 N R k m true l 0 e kd tb [] 0 0 0 [] [] [] 0 0 0 0 0 0 [] [] [] 0 0 0 lim acc a = k l' 0 e' kd tb [] 0 0 0 [] [] [] 0 0 0 0 0 0 [] [] [] 0 0 0 lim S a ∧ bare S = (updL N n (bare acc) st).1 ∧ Rep (updL N n (bare acc) st).2 l' e' ∧ lenS (updL N n (bare acc) st).2 ≤ lenS st
 | 0, _, _, _, _, _, hn, _, _, _, _ => absurd hn (Nat.not_lt_zero _)
 | n + 1, acc, st, l, e, m, hn, hm, hL, ha, hr => by
  have hN2 : ∃ f, N = f + 2 := ⟨N - 2, by omega⟩
  have hN1 : 1000 ≤ N := by omega
  obtain ⟨m, rfl⟩ : ∃ m', m = m' + 1 := ⟨m - 1, by omega⟩
  show ∃ l' e' S, pq_updates_l0B N R (pq_updates_l0 N R k m) k true l 0 e kd tb [] 0 0 0 [] [] [] 0 0 0 0 0 0 [] [] [] 0 0 0 lim acc a = _ ∧ _
  unfold pq_updates_l0B updL
  rw [ct]
  obtain ⟨a1, hat⟩ := at_st (N := N) (d := 0) hr
  rw [hat, bind_some']
  obtain ⟨l2, e2, h2, r2⟩ := name_st N hN1 0 hr
  rw [h2, bind_some']
  dsimp only
  obtain ⟨l3, e3, h3, r3⟩ := want_st N hN2 [61] 0 r2
  rw [h3, bind_some']
  dsimp only
  have q2 := name_len st
  have q3 := sWant_le [61] (sName st).2
  obtain ⟨l4, e4, h4, r4, p4, _⟩ := whole_st hN (by omega) r3
  have hl4 := p4.len
  rw [h4, bind_some']
  dsimp only [q]
  unfold pq_updates_r1
  rw [mk_eta, cond_t (room_le (by decide) (by simp; omega))]
  dsimp only
  obtain ⟨l5, e5, h5, r5⟩ := take_st N [44] 0 r4
  rw [h5, bind_some']
  dsimp only
  have eb : bare (acc ++ [((sName st).1, ((wholeT N (sWant [61] (sName st).2)).1, (a1, ())))]) = bare acc ++ [((sName st).1, (wholeT N (sWant [61] (sName st).2)).1)] := by simp [bare]
  by_cases hs : sIs [44] (wholeT N (sWant [61] (sName st).2)).2 = true
  · rw [if_pos hs, hs, ← eb]
    rw [sTake_t hs] at r5
    have ht := tl_len hs
    obtain ⟨l6, e6, S, h6, b6, r6, q6⟩ := upd_loop (k := k) (kd := kd) (lim := lim) (a := a) (tb := tb) n (acc ++ [((sName st).1, ((wholeT N (sWant [61] (sName st).2)).1, (a1, ())))]) _ l5 e5 m (by omega) (by omega) (by omega) (by simp; omega) r5
    exact ⟨l6, e6, S, h6, b6, r6, by omega⟩
  · rw [if_neg hs, Bool.eq_false_iff.2 hs]
    rw [sTake_f hs] at r5
    obtain ⟨m, rfl⟩ : ∃ m', m = m' + 1 := ⟨m - 1, by omega⟩
    refine ⟨l5, e5, acc ++ [((sName st).1, ((wholeT N (sWant [61] (sName st).2)).1, (a1, ())))], ?_, eb, r5, (by omega : lenS (wholeT N (sWant [61] (sName st).2)).2 ≤ lenS st)⟩
    show pq_updates_l0B N R (pq_updates_l0 N R k m) k false l5 0 e5 kd tb [] 0 0 0 [] [] [] 0 0 0 0 0 0 [] [] [] 0 0 0 lim (acc ++ [((sName st).1, ((wholeT N (sWant [61] (sName st).2)).1, (a1, ())))]) a = _
    unfold pq_updates_l0B
    rw [cf]
theorem upd_st {st : PS} {l : List Tk} {e : Err} (hL : lenS st ≤ 1100) (h : Rep st l e) : ∃ l' e' a' S, pq_updates N l 0 e 3 [] [] 0 0 0 [] [] [] 0 0 0 0 0 0 [] [] [] 0 0 0 (-1) 0 = some (l', (0, (e', (3, ((updT N st).1.1.table, ([], (0, (0, (0, ([], ([], ([], (0, (0, (0, ((updT N st).1.1.whr.op, ((updT N st).1.1.whr.vk, ((updT N st).1.1.whr.vn, ((updT N st).1.1.whr.vs, ((updT N st).1.1.whr.tab, ((updT N st).1.1.whr.name, ((updT N st).1.1.whr.num, ((updT N st).1.1.whr.kids, ((updT N st).1.1.whr.kind, ((updT N st).1.1.whr.at_, (-1, (S, (a', ())))))))))))))))))))))))))))) ∧ bare S = (updT N st).1.2 ∧ Rep (updT N st).2 l' e' := by
 have hN2 : ∃ f, N = f + 2 := ⟨N - 2, by omega⟩
 have hN1 : 1000 ≤ N := by omega
 unfold pq_updates pq_updates_cps updT
 unfold pq_table_1 pq_table_1_cps
 obtain ⟨a1, ha⟩ := at_st (N := N) (d := 0) h
 rw [ha, bind_some']
 obtain ⟨l2, e2, h2, r2⟩ := name_st N hN1 0 h
 rw [h2, bind_some', bind_some']
 dsimp only
 obtain ⟨l3, e3, h3, r3⟩ := want_st N hN2 kwSet 0 r2
 rw [show pq_want N [[115, 101, 116]] l2 0 e2 = _ from h3, bind_some']
 dsimp only
 have q2 := name_len st
 have q3 := sWant_le kwSet (sName st).2
 obtain ⟨l4, e4, S, h4, b4, r4, q4⟩ := upd_loop hN (k := fun v29 v30 v31 v32 v33 v34 v35 v36 v37 v38 v39 v40 v41 v42 v43 v44 v45 v46 v47 v48 v49 v50 v51 v52 v53 v54 v55 =>
  (Option.bind (pq_where N [119, 104, 101, 114, 101] v29 v30 v31) fun v56 =>
  some (v56.2.2.2.2.2.2.2.2.2.2.1, (v56.2.2.2.2.2.2.2.2.2.2.2.1, (v56.2.2.2.2.2.2.2.2.2.2.2.2.1, (v32, (v33, (v34, (v35, (v36, (v37, (v38, (v39, (v40, (v41, (v42, (v43, (v56.1, (v56.2.1, (v56.2.2.1, (v56.2.2.2.1, (v56.2.2.2.2.1, (v56.2.2.2.2.2.1, (v56.2.2.2.2.2.2.1, (v56.2.2.2.2.2.2.2.1, (v56.2.2.2.2.2.2.2.2.1, (v56.2.2.2.2.2.2.2.2.2.1, (v53, (v54, (v55, ())))))))))))))))))))))))))))))) (kd := 3) (lim := -1) (a := a1) (tb := (sName st).1) (N - 1) [] _ l3 e3 N (by omega) (by omega) (by omega) (by simp; omega) r3
 obtain ⟨l5, e5, h5, r5, q5, _⟩ := where_st hN kwWhere (by simp only [bare, List.map_nil] at q4 ⊢; omega) r4
 refine ⟨l5, e5, a1, S, ?_, b4, r5⟩
 refine h4.trans ?_
 rw [show pq_where N [119, 104, 101, 114, 101] l4 0 e4 = _ from h5, bind_some']
 rfl
theorem del_st {st : PS} {l : List Tk} {e : Err} (hL : lenS st ≤ 1100) (h : Rep st l e) {R : Type} {g : _ → _ → Option R} : ∃ l1 e1 a' l' e', (Option.bind (pq_want N ([[102, 114, 111, 109]] : (List (List UInt8))) l 0 e) fun v18 =>
 (Option.bind (pq_table_1 N v18.1 v18.2.1 v18.2.2.1 4 [] [] 0 0 0 [] [] [] 0 0 0 0 0 0 [] [] [] 0 0 0 (-1) 0) fun v19 =>
 (Option.bind (pq_where N [119, 104, 101, 114, 101] v19.1 v19.2.1 v19.2.2.1) fun v20 => g v19 v20))) =
 g (l1, (0, (e1, (4, ((delT N st).1.table, ([], (0, (0, (0, ([], ([], ([], (0, (0, (0, (0, (0, (0, ([], ([], ([], (0, (0, (0, (-1, (a', ())))))))))))))))))))))))))) (q (delT N st).1.whr l' 0 e') ∧ Rep (delT N st).2 l' e' := by
 have hN2 : ∃ f, N = f + 2 := ⟨N - 2, by omega⟩
 have hN1 : 1000 ≤ N := by omega
 unfold delT
 obtain ⟨l1, e1, h1, r1⟩ := want_st N hN2 kwFrom 0 h
 rw [show pq_want N [[102, 114, 111, 109]] l 0 e = _ from h1, bind_some']
 unfold pq_table_1 pq_table_1_cps
 dsimp only
 obtain ⟨a1, ha⟩ := at_st (N := N) (d := 0) r1
 rw [ha, bind_some']
 obtain ⟨l2, e2, h2, r2⟩ := name_st N hN1 0 r1
 rw [h2, bind_some', bind_some']
 dsimp only
 have q1 := sWant_le kwFrom st
 have q2 := name_len (sWant kwFrom st)
 obtain ⟨l3, e3, h3, r3, _⟩ := where_st hN kwWhere (by omega) r2
 rw [show pq_where N [119, 104, 101, 114, 101] l2 0 e2 = _ from h3, bind_some']
 exact ⟨l2, e2, a1, l3, e3, rfl, r3⟩
end
end Go.Proofs.YtbikfekdakigiaaGreatDoor.E
