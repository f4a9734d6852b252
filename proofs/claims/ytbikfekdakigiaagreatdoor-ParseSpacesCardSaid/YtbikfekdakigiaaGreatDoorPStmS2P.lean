/-
  Plain laws of the pure functions.
  Conditions: those that each statement prints, and no other.
-/
import Derived.Test.YtbikfekdakigiaaGreatDoorPStmSP
set_option linter.unusedVariables false
set_option linter.unusedSimpArgs false
namespace Go.Proofs.YtbikfekdakigiaaGreatDoor.E
open Go.Ev
set_option maxRecDepth 100000
section
variable {N : Nat} (hN : 1200 ≤ N)
include hN
theorem ord_loop {R : Type} {k : KSel R} {s : Stm} {a : Int} : ∀ (n : Nat) (acc : List OrdT) (st : PS) (l : List Tk) (e : Err) (m : Nat), lenS st < n → n < m → lenS st < N → acc.length + lenS st ≤ 2000 → Rep st l e →
 ∃ l' e', pq_selects_l3 N R k m true l 0 e s.kind s.table s.join s.on.op s.on.vk s.on.vn s.on.vs s.on.tab s.on.name s.on.num s.on.kids s.on.kind s.on.at_ s.whr.op s.whr.vk s.whr.vn s.whr.vs s.whr.tab s.whr.name s.whr.num s.whr.kids s.whr.kind s.whr.at_ s.items s.group acc s.limit a = kSel k { s with order := (ordL N n acc st).1 } a l' e' ∧ Rep (ordL N n acc st).2 l' e' ∧ lenS (ordL N n acc st).2 ≤ lenS st
 | 0, _, _, _, _, _, hn, _, _, _, _ => absurd hn (Nat.not_lt_zero _)
 | n + 1, acc, st, l, e, m, hn, hm, hL, ha, hr => by
  obtain ⟨m, rfl⟩ : ∃ m', m = m' + 1 := ⟨m - 1, by omega⟩
  show ∃ l' e', pq_selects_l3B N R (pq_selects_l3 N R k m) k true l 0 e _ _ _ _ _ _ _ _ _ _ _ _ _ _ _ _ _ _ _ _ _ _ _ _ _ _ _ _ = _ ∧ _
  unfold pq_selects_l3B ordL
  rw [ct]
  obtain ⟨l1, e1, h1, r1, p1, _⟩ := whole_st hN hL hr
  have hl1 := p1.len
  rw [h1, bind_some']
  dsimp only [q]
  obtain ⟨l2, e2, h2, r2⟩ := take_st N kwAsc 0 r1
  rw [show pq_take N [97, 115, 99] l1 0 e1 = _ from h2, bind_some']
  dsimp only
  have fin : ∀ (b : Bool) (st3 : PS) (l3 : List Tk) (e3 : Err), Rep st3 l3 e3 → lenS st3 ≤ lenS st →
   ∃ l' e', (Option.bind (pq_take N [44] l3 0 e3) fun v688 => pq_selects_l3 N R k m v688.1 v688.2.1 v688.2.2.1 v688.2.2.2.1 s.kind s.table s.join s.on.op s.on.vk s.on.vn s.on.vs s.on.tab s.on.name s.on.num s.on.kids s.on.kind s.on.at_ s.whr.op s.whr.vk s.whr.vn s.whr.vs s.whr.tab s.whr.name s.whr.num s.whr.kids s.whr.kind s.whr.at_ s.items s.group (acc ++ [((wholeT N st).1, (b, ()))]) s.limit a) =
    kSel k { s with order := (if sIs [44] st3 = true then ordL N n (acc ++ [((wholeT N st).1, (b, ()))]) (sTl st3) else (acc ++ [((wholeT N st).1, (b, ()))], st3)).1 } a l' e' ∧
    Rep (if sIs [44] st3 = true then ordL N n (acc ++ [((wholeT N st).1, (b, ()))]) (sTl st3) else (acc ++ [((wholeT N st).1, (b, ()))], st3)).2 l' e' ∧
    lenS (if sIs [44] st3 = true then ordL N n (acc ++ [((wholeT N st).1, (b, ()))]) (sTl st3) else (acc ++ [((wholeT N st).1, (b, ()))], st3)).2 ≤ lenS st := by
   intro b st3 l3 e3 r3 hl3
   obtain ⟨l4, e4, h4, r4⟩ := take_st N [44] 0 r3
   rw [h4, bind_some']
   dsimp only
   by_cases hs : sIs [44] st3 = true
   · rw [if_pos hs, hs]
     rw [sTake_t hs] at r4
     have ht := tl_len hs
     obtain ⟨l5, e5, h5, r5, q5⟩ := ord_loop (k := k) (s := s) (a := a) n (acc ++ [((wholeT N st).1, (b, ()))]) (sTl st3) l4 e4 m (by omega) (by omega) (by omega) (by simp; omega) r4
     exact ⟨l5, e5, h5, r5, by omega⟩
   · rw [if_neg hs, Bool.eq_false_iff.2 hs]
     rw [sTake_f hs] at r4
     obtain ⟨m, rfl⟩ : ∃ m', m = m' + 1 := ⟨m - 1, by omega⟩
     refine ⟨l4, e4, ?_, r4, hl3⟩
     show pq_selects_l3B N R (pq_selects_l3 N R k m) k false l4 0 e4 _ _ _ _ _ _ _ _ _ _ _ _ _ _ _ _ _ _ _ _ _ _ _ _ _ _ _ _ = _
     unfold pq_selects_l3B
     rw [cf]; rfl
  by_cases hs : sIs kwAsc (wholeT N st).2 = true
  · have eo : ordOne N st = (((wholeT N st).1, (false, ())), sTl (wholeT N st).2) := by unfold ordOne; dsimp only; rw [if_pos hs]
    rw [eo, hs, cnt]
    unfold pq_selects_r4
    rw [mk_eta, cond_t (room_le (by decide) (by simp; omega))]
    rw [sTake_t hs] at r2
    have ht := tl_len hs
    exact fin false (sTl (wholeT N st).2) l2 e2 r2 (by omega)
  · have eo : ordOne N st = (((wholeT N st).1, (sIs kwDesc (wholeT N st).2, ())), sTake kwDesc (wholeT N st).2) := by unfold ordOne; dsimp only; rw [if_neg hs]
    rw [eo, Bool.eq_false_iff.2 hs, cnf]
    rw [sTake_f hs] at r2
    obtain ⟨l3, e3, h3, r3⟩ := take_st N kwDesc 0 r2
    rw [show pq_take N [100, 101, 115, 99] l2 0 e2 = _ from h3, bind_some']
    dsimp only
    unfold pq_selects_r4
    rw [mk_eta, cond_t (room_le (by decide) (by simp; omega))]
    exact fin _ _ l3 e3 r3 (Nat.le_trans (sTake_len _ _) hl1)
theorem order_st {R : Type} {k : KSel R} {s : Stm} {a : Int} {st : PS} {l : List Tk} {e : Err} (hL : lenS st ≤ 1100) (h : Rep st l e) : ∃ l' e', pq_selects_j2 N R k k l 0 e s.kind s.table s.join s.on.op s.on.vk s.on.vn s.on.vs s.on.tab s.on.name s.on.num s.on.kids s.on.kind s.on.at_ s.whr.op s.whr.vk s.whr.vn s.whr.vs s.whr.tab s.whr.name s.whr.num s.whr.kids s.whr.kind s.whr.at_ s.items s.group s.limit a = kSel k (orderT N s st).1 a l' e' ∧ Rep (orderT N s st).2 l' e' := by
 have hN2 : ∃ f, N = f + 2 := ⟨N - 2, by omega⟩
 unfold pq_selects_j2 orderT
 obtain ⟨l1, e1, h1, r1⟩ := take_st N kwOrder 0 h
 rw [show pq_take N [111, 114, 100, 101, 114] l 0 e = _ from h1, bind_some']
 dsimp only
 by_cases hs : sIs kwOrder st = true
 · rw [if_pos hs, hs, ct]
   rw [sTake_t hs] at r1
   have ht := tl_len hs
   obtain ⟨l2, e2, h2, r2⟩ := want_st N hN2 kwBy 0 r1
   rw [show pq_want N [[98, 121]] l1 0 e1 = _ from h2, bind_some']
   dsimp only
   have hw := sWant_le kwBy (sTl st)
   obtain ⟨l3, e3, h3, r3, _⟩ := ord_loop hN (k := fun v498 v499 v500 v501 v502 v503 v504 v505 v506 v507 v508 v509 v510 v511 v512 v513 v514 v515 v516 v517 v518 v519 v520 v521 v522 v523 v524 v525 v526 v527 v528 => pq_selects_j5 N R k k v498 v499 v500 v501 v502 v503 v504 v505 v506 v507 v508 v509 v510 v511 v512 v513 v514 v515 v516 v517 v518 v519 v520 v521 v522 v523 v524 v525 v526 v527 v528) (s := s) (a := a) (N - 1) [] _ l2 e2 N (by omega) (by omega) (by omega) (by simp; omega) r2
   obtain ⟨l4, e4, h4, r4⟩ := lim_st (k := k) (s := { s with order := (ordL N (N - 1) [] (sWant kwBy (sTl st))).1 }) (a := a) r3
   exact ⟨l4, e4, h3.trans h4, r4⟩
 · rw [if_neg hs, Bool.eq_false_iff.2 hs, cf]
   rw [sTake_f hs] at r1
   exact lim_st (k := k) (s := { s with order := [] }) (a := a) r1
theorem group_st {R : Type} {k : KSel R} {s : Stm} {a : Int} {st : PS} {l : List Tk} {e : Err} (hL : lenS st ≤ 1100) (h : Rep st l e) : ∃ l' e', pq_selects_j1 N R k k l 0 e s.kind s.table s.join s.on.op s.on.vk s.on.vn s.on.vs s.on.tab s.on.name s.on.num s.on.kids s.on.kind s.on.at_ 0 0 0 [] [] [] 0 0 0 s.items s.limit a = kSel k (groupT N s st).1 a l' e' ∧ Rep (groupT N s st).2 l' e' := by
 have hN2 : ∃ f, N = f + 2 := ⟨N - 2, by omega⟩
 unfold pq_selects_j1 groupT
 obtain ⟨l1, e1, h1, r1, q1, _⟩ := where_st hN kwWhere hL h
 rw [show pq_where N [119, 104, 101, 114, 101] l 0 e = _ from h1, bind_some']
 dsimp only [q]
 obtain ⟨l2, e2, h2, r2⟩ := take_st N kwGroup 0 r1
 rw [show pq_take N [103, 114, 111, 117, 112] l1 0 e1 = _ from h2, bind_some']
 dsimp only
 by_cases hs : sIs kwGroup (whereT N kwWhere st).2 = true
 · rw [if_pos hs, hs, ct]
   rw [sTake_t hs] at r2
   have ht := tl_len hs
   obtain ⟨l3, e3, h3, r3⟩ := want_st N hN2 kwBy 0 r2
   rw [show pq_want N [[98, 121]] l2 0 e2 = _ from h3, bind_some']
   dsimp only
   have hw := sWant_le kwBy (sTl (whereT N kwWhere st).2)
   obtain ⟨l4, e4, h4, r4, ⟨q4, _⟩, _⟩ := list_st hN (by omega) r3
   rw [h4, bind_some']
   dsimp only
   exact order_st hN (k := k) (s := { s with whr := (whereT N kwWhere st).1, group := (listT N (sWant kwBy (sTl (whereT N kwWhere st).2))).1 }) (a := a) (by omega) r4
 · rw [if_neg hs, Bool.eq_false_iff.2 hs, cf]
   rw [sTake_f hs] at r2
   exact order_st hN (k := k) (s := { s with whr := (whereT N kwWhere st).1, group := [] }) (a := a) (by omega) r2
omit hN in
theorem name_len (st : PS) : lenS (sName st).2 ≤ lenS st := by
 cases st with
 | none => exact Nat.le_refl _
 | some l =>
  cases l with
  | nil => exact Nat.zero_le _
  | cons t r =>
   simp only [sName]
   split
   · simp [lenS]
   · exact Nat.zero_le _
omit hN in
theorem at_st {st : PS} {l : List Tk} {d : Int} {e : Err} (h : Rep st l e) : ∃ a, pq_at N l d e = some (a, ()) := by
 have hl : l ≠ [] := by
  cases st with
  | none => exact h.2
  | some l' =>
   obtain ⟨rfl, _, hw⟩ := h
   obtain ⟨t, r, rfl⟩ := hw.cons
   simp
 obtain ⟨t, r, rfl⟩ := List.exists_cons_of_ne_nil hl
 exact ⟨_, rfl⟩
theorem from_st {R : Type} {k : KSel R} {kd : Int} {items : List Ex} {lim a : Int} {st : PS} {l : List Tk} {e : Err} (hL : lenS st ≤ 1100) (h : Rep st l e) : ∃ l' e' a', pq_selects_j0 N R k k l 0 e kd [] [] 0 0 0 [] [] [] 0 0 0 0 0 0 [] [] [] 0 0 0 items lim a = kSel k (fromT N ⟨kd, [], [], z0, z0, items, [], [], lim, [], []⟩ st).1 a' l' e' ∧ Rep (fromT N ⟨kd, [], [], z0, z0, items, [], [], lim, [], []⟩ st).2 l' e' := by
 have hN2 : ∃ f, N = f + 2 := ⟨N - 2, by omega⟩
 have hN1 : 1000 ≤ N := by omega
 unfold pq_selects_j0 fromT
 obtain ⟨l1, e1, h1, r1⟩ := want_st N hN2 kwFrom 0 h
 rw [show pq_want N [[102, 114, 111, 109]] l 0 e = _ from h1, bind_some']
 unfold pq_table pq_table_cps
 dsimp only
 obtain ⟨a1, ha⟩ := at_st (N := N) (d := 0) r1
 rw [ha, bind_some']
 obtain ⟨l2, e2, h2, r2⟩ := name_st N hN1 0 r1
 rw [h2, bind_some', bind_some']
 dsimp only
 obtain ⟨l3, e3, h3, r3⟩ := take_st N kwJoin 0 r2
 rw [show pq_take N [106, 111, 105, 110] l2 0 e2 = _ from h3, bind_some']
 dsimp only
 have hw := sWant_le kwFrom st
 have hn := name_len (sWant kwFrom st)
 by_cases hs : sIs kwJoin (sName (sWant kwFrom st)).2 = true
 · rw [if_pos hs, hs, ct]
   rw [sTake_t hs] at r3
   have ht := tl_len hs
   obtain ⟨l4, e4, h4, r4⟩ := name_st N hN1 0 r3
   rw [h4, bind_some']
   dsimp only
   obtain ⟨l5, e5, h5, r5⟩ := want_st N hN2 kwOn 0 r4
   rw [show pq_want N [[111, 110]] l4 0 e4 = _ from h5, bind_some']
   dsimp only
   have hn2 := name_len (sTl (sName (sWant kwFrom st)).2)
   have hw2 := sWant_le kwOn (sName (sTl (sName (sWant kwFrom st)).2)).2
   obtain ⟨l6, e6, h6, r6, p6, _⟩ := whole_st hN (by omega) r5
   have := p6.len
   rw [h6, bind_some']
   dsimp only [q]
   obtain ⟨l7, e7, h7, r7⟩ := group_st hN (k := k) (s := { kind := kd, table := (sName (sWant kwFrom st)).1, join := (sName (sTl (sName (sWant kwFrom st)).2)).1, on := (wholeT N (sWant kwOn (sName (sTl (sName (sWant kwFrom st)).2)).2)).1, whr := z0, items := items, group := [], order := [], limit := lim, rows := [], sets := [] }) (a := a1) (by omega) r6
   exact ⟨l7, e7, a1, h7, r7⟩
 · rw [if_neg hs, Bool.eq_false_iff.2 hs, cf]
   rw [sTake_f hs] at r3
   obtain ⟨l7, e7, h7, r7⟩ := group_st hN (k := k) (s := { kind := kd, table := (sName (sWant kwFrom st)).1, join := [], on := z0, whr := z0, items := items, group := [], order := [], limit := lim, rows := [], sets := [] }) (a := a1) (by omega) r3
   exact ⟨l7, e7, a1, h7, r7⟩
def rSel : KSel (List Tk × Int × Err × Int × Bs × Bs × Int × Int × Int × Bs × Bs × Bs × Int × List Ex × Int × Int × Int × Int × Int × Bs × Bs × Bs × Int × List Ex × Int × Int × List Ex × List Ex × List OrdT × Int × Int × Unit) :=
 fun a0 a1 a2 a3 a4 a5 a6 a7 a8 a9 a10 a11 a12 a13 a14 a15 a16 a17 a18 a19 a20 a21 a22 a23 a24 a25 a26 a27 a28 a29 a30 => some (a0, (a1, (a2, (a3, (a4, (a5, (a6, (a7, (a8, (a9, (a10, (a11, (a12, (a13, (a14, (a15, (a16, (a17, (a18, (a19, (a20, (a21, (a22, (a23, (a24, (a25, (a26, (a27, (a28, (a29, (a30, ())))))))))))))))))))))))))))))))
theorem sel_st {st : PS} {l : List Tk} {e : Err} (hL : lenS st ≤ 1100) (h : Rep st l e) : ∃ l' e' a', pq_selects N l 0 e 1 [] [] 0 0 0 [] [] [] 0 0 0 0 0 0 [] [] [] 0 0 0 (-1) 0 = kSel rSel (selT N st).1 a' l' e' ∧ Rep (selT N st).2 l' e' := by
 unfold pq_selects pq_selects_cps selT
 obtain ⟨l1, e1, h1, r1⟩ := take_st N [42] 0 h
 rw [h1, bind_some']
 dsimp only
 by_cases hs : sIs [42] st = true
 · rw [if_pos hs, hs, cnt]
   rw [sTake_t hs] at r1
   have ht := tl_len hs
   exact from_st hN (k := rSel) (by omega) r1
 · rw [if_neg hs, Bool.eq_false_iff.2 hs, cnf]
   rw [sTake_f hs] at r1
   obtain ⟨l2, e2, h2, r2, ⟨q2, _⟩, _⟩ := list_st hN hL r1
   rw [h2, bind_some']
   exact from_st hN (k := rSel) (by omega) r2
end
end Go.Proofs.YtbikfekdakigiaaGreatDoor.E
