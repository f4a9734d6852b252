/-
  The statement LockPlays of the program is proved: for every input that the row speaks of, the law answers true.
  Conditions: those that the statement's row prints, and no other. This text: plain laws of the pure functions.
-/
import Derived.Test.YtkeejnlicagjiabLockPlaysP3
import Derived.Test.YtkeejnlicagjiabLockPlaysP4
set_option linter.unusedVariables false
set_option linter.unusedSimpArgs false
/-! LockPlays: the document's table does the same. -/
namespace Go.Proofs.Ytkeejnlicagjiab.E
open Go.Ev

theorem refRight_eq (N : Nat) (a : LkT) : ref09_Right N a.1 a.2.1 a.2.2.1 a.2.2.2.1 a.2.2.2.2.1 = some (rightL a, ()) := by
  unfold ref09_Right ref09_Right_cps rightL ahead
  cases decide (a.2.2.2.1 = []) <;> cases decide (a.2.2.2.2.1 = 1) <;> cases decide (a.2.2.2.2.1 = 2) <;> cases Op.bytesLess a.2.2.1 a.2.2.2.1 <;> rfl

theorem refCovers_eq (N : Nat) (a b : LkT) : ref09_covers N a.1 a.2.1 a.2.2.1 a.2.2.2.1 a.2.2.2.2.1 b.1 b.2.1 b.2.2.1 b.2.2.2.1 b.2.2.2.2.1 = some (coversL a b, ()) := by
  unfold ref09_covers ref09_covers_cps coversL
  cases decide (a.1 = b.1) <;> cases decide (a.2.1 = b.2.1) <;> cases decide (a.2.2.2.2.1 = b.2.2.2.2.1) <;> cases decide (a.2.2.2.2.1 = 2) <;> cases Op.bytesLess b.2.2.1 a.2.2.1 <;> cases decide (a.2.2.2.1 = []) <;> cases decide (b.2.2.2.1 = []) <;> first
    | rfl
    | (cases Op.bytesLess a.2.2.2.1 b.2.2.2.1 <;> rfl)

theorem refClashes_loop (R : Type) (l : List LkT) (x : LkT) (hl : l.length ≤ 1000000) (k0 : Int → List UInt8 → List UInt8 → List UInt8 → Int → Option R) (k1 : Bool → Int → List UInt8 → List UInt8 → List UInt8 → Int → Option R) :
    ∀ (n i : Nat), l.length - i < n → ref09_clashes_1_l0 big R k0 k1 n l (i : Int) x.1 x.2.1 x.2.2.1 x.2.2.2.1 x.2.2.2.2.1 = (bif clashesL (l.drop i) x then k1 true x.1 x.2.1 x.2.2.1 x.2.2.2.1 x.2.2.2.2.1 else k0 x.1 x.2.1 x.2.2.1 x.2.2.2.1 x.2.2.2.2.1)
  | 0, i, h => by omega
  | n + 1, i, h => by
    have step : ref09_clashes_1_l0 big R k0 k1 (n + 1) l (i : Int) x.1 x.2.1 x.2.2.1 x.2.2.2.1 x.2.2.2.2.1 = ref09_clashes_1_l0B big R (ref09_clashes_1_l0 big R k0 k1 n) k0 k1 l (i : Int) x.1 x.2.1 x.2.2.1 x.2.2.2.1 x.2.2.2.2.1 := rfl
    rw [step]
    unfold ref09_clashes_1_l0B
    by_cases hi : i < l.length
    · rw [if_t (by omega), nth_lt hi, bind_some', refClash_eq big l[i] x, bind_some', List.drop_eq_getElem_cons hi, wrap_succ hi (by omega), refClashes_loop R l x hl k0 k1 n (i + 1) (by omega), clash_comm]
      unfold clashesL
      rw [List.any_cons]
      cases clash x l[i] <;> rfl
    · rw [if_f (by omega), List.drop_eq_nil_of_le (by omega)]; rfl

theorem refClashes_eq (l : List LkT) (x : LkT) (hl : l.length ≤ 1000000) : ref09_clashes_1 big l x.1 x.2.1 x.2.2.1 x.2.2.2.1 x.2.2.2.2.1 = some (clashesL l x, ()) := by
  unfold ref09_clashes_1 ref09_clashes_1_cps
  refine (refClashes_loop _ l x hl _ _ big 0 (big_gt _ (by omega))).trans ?_
  rw [List.drop_zero]
  cases clashesL l x <;> rfl

theorem refAsk_l1 (R : Type) (g w : List LkT) (x : LkT) (hl : g.length ≤ 1000000) (k0 : List LkT → List LkT → Int → List UInt8 → List UInt8 → List UInt8 → Int → Option R) (k1 : Bool → Int → List LkT → List LkT → Int → List UInt8 → List UInt8 → List UInt8 → Int → Option R) :
    ∀ (n i : Nat), g.length - i < n → ref09_Locks_Ask_1_l1 big R k0 k1 n (i : Int) g w x.1 x.2.1 x.2.2.1 x.2.2.2.1 x.2.2.2.2.1 = (bif coveredL (g.drop i) x then k1 true 0 g w x.1 x.2.1 x.2.2.1 x.2.2.2.1 x.2.2.2.2.1 else k0 g w x.1 x.2.1 x.2.2.1 x.2.2.2.1 x.2.2.2.2.1)
  | 0, i, h => by omega
  | n + 1, i, h => by
    have step : ref09_Locks_Ask_1_l1 big R k0 k1 (n + 1) (i : Int) g w x.1 x.2.1 x.2.2.1 x.2.2.2.1 x.2.2.2.2.1 = ref09_Locks_Ask_1_l1B big R (ref09_Locks_Ask_1_l1 big R k0 k1 n) k0 k1 (i : Int) g w x.1 x.2.1 x.2.2.1 x.2.2.2.1 x.2.2.2.2.1 := rfl
    rw [step]
    unfold ref09_Locks_Ask_1_l1B
    by_cases hi : i < g.length
    · rw [if_t (by omega), nth_lt hi, bind_some', refCovers_eq big g[i] x, bind_some', List.drop_eq_getElem_cons hi, wrap_succ hi (by omega), refAsk_l1 R g w x hl k0 k1 n (i + 1) (by omega)]
      unfold coveredL
      rw [List.any_cons]
      cases coversL g[i] x <;> rfl
    · rw [if_f (by omega), List.drop_eq_nil_of_le (by omega)]; rfl

theorem refAsk_l0 (R : Type) (g w : List LkT) (x : LkT) (hl : w.length ≤ 1000000) (k0 : List LkT → List LkT → Int → List UInt8 → List UInt8 → List UInt8 → Int → Option R) (k1 : Bool → Int → List LkT → List LkT → Int → List UInt8 → List UInt8 → List UInt8 → Int → Option R) :
    ∀ (n i : Nat), w.length - i < n → ref09_Locks_Ask_1_l0 big R k0 k1 n (i : Int) g w x.1 x.2.1 x.2.2.1 x.2.2.2.1 x.2.2.2.2.1 = (bif waitsL (w.drop i) x.1 then k1 false 92 g w x.1 x.2.1 x.2.2.1 x.2.2.2.1 x.2.2.2.2.1 else k0 g w x.1 x.2.1 x.2.2.1 x.2.2.2.1 x.2.2.2.2.1)
  | 0, i, h => by omega
  | n + 1, i, h => by
    have step : ref09_Locks_Ask_1_l0 big R k0 k1 (n + 1) (i : Int) g w x.1 x.2.1 x.2.2.1 x.2.2.2.1 x.2.2.2.2.1 = ref09_Locks_Ask_1_l0B big R (ref09_Locks_Ask_1_l0 big R k0 k1 n) k0 k1 (i : Int) g w x.1 x.2.1 x.2.2.1 x.2.2.2.1 x.2.2.2.2.1 := rfl
    rw [step]
    unfold ref09_Locks_Ask_1_l0B
    by_cases hi : i < w.length
    · rw [if_t (by omega), nth_lt hi, bind_some', List.drop_eq_getElem_cons hi, wrap_succ hi (by omega), refAsk_l0 R g w x hl k0 k1 n (i + 1) (by omega)]
      unfold waitsL
      rw [List.any_cons]
      cases decide (w[i].1 = x.1) <;> rfl
    · rw [if_f (by omega), List.drop_eq_nil_of_le (by omega)]; rfl

theorem refAsk_eq (g w : List LkT) (x : LkT) (hg : g.length ≤ 10000) (hw : w.length ≤ 10000) : ref09_Locks_Ask_1 big x.1 x.2.1 x.2.2.1 x.2.2.2.1 x.2.2.2.2.1 g w = some (askL g w x) := by
  unfold ref09_Locks_Ask_1 ref09_Locks_Ask_1_cps askL
  rw [refRight_eq, bind_some']
  cases rightL x with
  | false => rfl
  | true =>
    simp only [Bool.not_true, cond_false]
    refine (refAsk_l0 _ g w x (by omega) _ _ big 0 (big_gt _ (by omega))).trans ?_
    rw [List.drop_zero]
    cases waitsL w x.1 with
    | true => rfl
    | false =>
      simp only [cond_false]
      refine (refAsk_l1 _ g w x (by omega) _ _ big 0 (big_gt _ (by omega))).trans ?_
      rw [List.drop_zero]
      cases coveredL g x with
      | true => rfl
      | false =>
        simp only [cond_false]
        rw [wrap_i64_id (by omega) (by omega)]
        by_cases hf : 1024 ≤ g.length + w.length
        · rw [if_t (by omega), dec_t hf]; rfl
        · rw [if_f (by omega), dec_f hf, refClashes_eq g x (by omega), bind_some', refClashes_eq w x (by omega), bind_some']
          simp only [cond_false, List.nil_append]
          rw [cond_t (room_of (by simp; omega)), cond_t (room_of (by simp; omega)), cond_t (room_of (by simp; omega)), cond_t (room_of (by simp; omega))]
          cases clashesL g x <;> cases clashesL w x <;> rfl

theorem refWithout_loop (N : Nat) (R : Type) (l : List LkT) (hl : l.length ≤ 1000000) (tx : Int) (k0 : List LkT → Option R) :
    ∀ (n i : Nat) (o : List LkT), l.length - i < n → i ≤ l.length → o.length ≤ i → ref09_without_1_l0 N R k0 n l tx o (i : Int) = k0 (o ++ (l.drop i).filter (keepL tx))
  | 0, i, o, h, _, _ => by omega
  | n + 1, i, o, h, hi, ho => by
    have step : ref09_without_1_l0 N R k0 (n + 1) l tx o (i : Int) = ref09_without_1_l0B N R (ref09_without_1_l0 N R k0 n) k0 l tx o (i : Int) := rfl
    rw [step]
    unfold ref09_without_1_l0B
    by_cases hil : i < l.length
    · rw [if_t (by omega), nth_lt hil, bind_some', bind_some', wrap_succ hil (by omega), List.drop_eq_getElem_cons hil]
      cases hq : decide (l[i].1 = tx) with
      | true =>
        simp only [Bool.not_true, cond_false]
        rw [List.filter_cons_of_neg (show ¬ keepL tx l[i] = true by simp [keepL, of_decide_eq_true hq]), refWithout_loop N R l hl tx k0 n (i + 1) _ (by omega) (by omega) (by omega)]
      | false =>
        simp only [Bool.not_false, cond_true]
        rw [cond_t (room_of (by simp; omega)), List.filter_cons_of_pos (show keepL tx l[i] = true by simp [keepL, of_decide_eq_false hq]), refWithout_loop N R l hl tx k0 n (i + 1) _ (by omega) (by omega) (by simp; omega), List.append_assoc]
        rfl
    · rw [if_f (by omega), List.drop_eq_nil_of_le (by omega), List.filter_nil, List.append_nil]

theorem refWithout_eq (l : List LkT) (tx : Int) (hl : l.length ≤ 1000000) : ref09_without_1 big l tx = some (l.filter (keepL tx), ()) := by
  unfold ref09_without_1 ref09_without_1_cps
  refine (refWithout_loop big _ l hl tx _ big 0 [] (big_gt _ (by omega)) (by omega) (by simp)).trans ?_
  rw [List.drop_zero, List.nil_append]

theorem refLook_loop (R : Type) (l : List LkT) (hl : l.length ≤ 100000) (k0 : List Int → List LkT → List LkT → List LkT → Option R) :
    ∀ (n i : Nat) (o : List Int) (lf g : List LkT), l.length - i < n → o.length ≤ i → lf.length ≤ i → g.length ≤ 100000 + i → i ≤ l.length →
      ref09_Locks_look_l0 big R k0 n o lf (i : Int) g l = (fun p => k0 p.1 p.2.2.1 p.2.1 l) (lookL (l.drop i) o lf g)
  | 0, i, o, lf, g, h, _, _, _, _ => by omega
  | n + 1, i, o, lf, g, h, ho, hlf, hg, hi => by
    have step : ref09_Locks_look_l0 big R k0 (n + 1) o lf (i : Int) g l = ref09_Locks_look_l0B big R (ref09_Locks_look_l0 big R k0 n) k0 o lf (i : Int) g l := rfl
    rw [step]
    unfold ref09_Locks_look_l0B
    by_cases hil : i < l.length
    · rw [if_t (by omega), nth_lt hil]
      simp only [bind_some', List.nil_append]
      rw [refClashes_eq g l[i] (by omega), bind_some', refClashes_eq lf l[i] (by omega), bind_some', wrap_succ hil (by omega), List.drop_eq_getElem_cons hil]
      unfold lookL
      have hb : ∀ z : List LkT, z.length ≤ 300000 → room 64 (z.length + ([(l[i].1, (l[i].2.1, (l[i].2.2.1, (l[i].2.2.2.1, (l[i].2.2.2.2.1, ())))))] : List LkT).length) = true := fun z hz => room_of (by simp; omega)
      have hb8 : room 8 (o.length + ([l[i].1] : List Int).length) = true := room_of (by simp; omega)
      have hb0 : room 64 (([] : List LkT).length + g.length) = true := room_of (by simp; omega)
      cases clashesL g l[i] with
      | true =>
        simp only [Bool.true_or, cond_true]
        rw [cond_t (hb lf (by omega))]
        exact refLook_loop R l hl k0 n (i + 1) o (lf ++ [l[i]]) g (by omega) (by omega) (by simp; omega) (by omega) (by omega)
      | false =>
        simp only [Bool.false_or, cond_false]
        cases clashesL lf l[i] with
        | true =>
          simp only [cond_true]
          rw [cond_t (hb lf (by omega))]
          exact refLook_loop R l hl k0 n (i + 1) o (lf ++ [l[i]]) g (by omega) (by omega) (by simp; omega) (by omega) (by omega)
        | false =>
          simp only [cond_false]
          rw [cond_t hb0, cond_t (hb g (by omega)), cond_t hb8]
          exact refLook_loop R l hl k0 n (i + 1) (o ++ [l[i].1]) lf (g ++ [l[i]]) (by omega) (by simp; omega) (by omega) (by simp; omega) (by omega)
    · rw [if_f (by omega), List.drop_eq_nil_of_le (by omega)]; rfl

theorem refLook_eq (g w : List LkT) (hg : g.length ≤ 100000) (hw : w.length ≤ 100000) : ref09_Locks_look big g w = some (lookL w [] [] g) := by
  unfold ref09_Locks_look ref09_Locks_look_cps
  refine (refLook_loop _ w hw _ big 0 [] [] g (big_gt _ (by omega)) (by simp) (by simp) (by omega) (by omega)).trans ?_
  rw [List.drop_zero]

theorem refCancel_eq (tx : Int) (g w : List LkT) (hg : g.length ≤ 100000) (hw : w.length ≤ 100000) : ref09_Locks_Cancel_1 big tx g w = some (cancelL tx g w) := by
  unfold ref09_Locks_Cancel_1 ref09_Locks_Cancel_1_cps
  rw [refWithout_eq w tx (by omega), bind_some', refLook_eq g _ hg (Nat.le_trans (List.length_filter_le _ _) hw), bind_some']; rfl

theorem refDrop_eq (tx : Int) (g w : List LkT) (hg : g.length ≤ 100000) (hw : w.length ≤ 100000) : ref09_Locks_Drop_1 big tx g w = some (dropL tx g w) := by
  unfold ref09_Locks_Drop_1 ref09_Locks_Drop_1_cps
  rw [refWithout_eq g tx (by omega), bind_some', refWithout_eq w tx (by omega), bind_some', refLook_eq _ _ (Nat.le_trans (List.length_filter_le _ _) hg) (Nat.le_trans (List.length_filter_le _ _) hw), bind_some']; rfl

theorem refGranted_loop (N : Nat) (R : Type) (g w : List LkT) (hl : g.length ≤ 1000000) (tx : Int) (k0 : List LkT → List LkT → List LkT → Option R) :
    ∀ (n i : Nat) (o : List LkT), g.length - i < n → i ≤ g.length → o.length ≤ i → ref09_Locks_Granted_l0 N R k0 n tx o (i : Int) g w = k0 (o ++ (g.drop i).filter (hadL tx)) g w
  | 0, i, o, h, _, _ => by omega
  | n + 1, i, o, h, hi, ho => by
    have step : ref09_Locks_Granted_l0 N R k0 (n + 1) tx o (i : Int) g w = ref09_Locks_Granted_l0B N R (ref09_Locks_Granted_l0 N R k0 n) k0 tx o (i : Int) g w := rfl
    rw [step]
    unfold ref09_Locks_Granted_l0B
    by_cases hil : i < g.length
    · rw [if_t (by omega), nth_lt hil, bind_some', bind_some', wrap_succ hil (by omega), List.drop_eq_getElem_cons hil]
      cases hq : decide (g[i].1 = tx) with
      | true =>
        simp only [cond_true]
        rw [cond_t (room_of (by simp; omega)), List.filter_cons_of_pos (show hadL tx g[i] = true from hq), refGranted_loop N R g w hl tx k0 n (i + 1) _ (by omega) (by omega) (by simp; omega), List.append_assoc]
        rfl
      | false =>
        simp only [cond_false]
        rw [List.filter_cons_of_neg (show ¬ hadL tx g[i] = true by simp [hadL, of_decide_eq_false hq]), refGranted_loop N R g w hl tx k0 n (i + 1) _ (by omega) (by omega) (by omega)]
    · rw [if_f (by omega), List.drop_eq_nil_of_le (by omega), List.filter_nil, List.append_nil]

theorem refGranted_eq (tx : Int) (g w : List LkT) (hg : g.length ≤ 100000) : ref09_Locks_Granted big tx g w = some (g.filter (hadL tx), (g, (w, ()))) := by
  unfold ref09_Locks_Granted ref09_Locks_Granted_cps
  refine (refGranted_loop big _ g w (by omega) tx _ big 0 [] (big_gt _ (by omega)) (by omega) (by simp)).trans ?_
  rw [List.drop_zero, List.nil_append]

theorem all_loop (N : Nat) (R : Type) (l : List LkT) (hl : l.length ≤ 1000000) (k0 : List LkT → Option R) :
    ∀ (n i : Nat), l.length - i < n → i ≤ l.length → law09_all_l0 N R k0 n l (l.take i) (i : Int) = k0 l
  | 0, i, h, _ => by omega
  | n + 1, i, h, hi => by
    have step : law09_all_l0 N R k0 (n + 1) l (l.take i) (i : Int) = law09_all_l0B N R (law09_all_l0 N R k0 n) k0 l (l.take i) (i : Int) := rfl
    rw [step]
    unfold law09_all_l0B
    by_cases hil : i < l.length
    · rw [if_t (by omega), nth_lt hil, bind_some', show law09_told N l[i].1 l[i].2.1 l[i].2.2.1 l[i].2.2.2.1 l[i].2.2.2.2.1 = some l[i] from rfl, bind_some', wrap_succ hil (by omega), cond_t (room_of (by simp; omega))]
      have e : l.take i ++ ([(l[i].1, (l[i].2.1, (l[i].2.2.1, (l[i].2.2.2.1, (l[i].2.2.2.2.1, ())))))] : List LkT) = l.take (i + 1) := (List.take_succ_eq_append_getElem hil).symm
      rw [e]
      exact all_loop N R l hl k0 n (i + 1) (by omega) (by omega)
    · rw [if_f (by omega), List.take_of_length_le (by omega)]

theorem all_eq (l : List LkT) (hl : l.length ≤ 100000) : law09_all big l = some (l, ()) := by
  unfold law09_all law09_all_cps
  exact all_loop big _ l (by omega) _ big 0 (big_gt _ (by omega)) (by omega)

theorem same_loop (N : Nat) (R : Type) (l : List LkT) (hl : l.length ≤ 1000000) (k0 : Option R) (k1 : Bool → Option R) :
    ∀ (n i : Nat), l.length - i < n → ref09_Same_l0 N R k0 k1 n l l (i : Int) = k0
  | 0, i, h => by omega
  | n + 1, i, h => by
    have step : ref09_Same_l0 N R k0 k1 (n + 1) l l (i : Int) = ref09_Same_l0B N R (ref09_Same_l0 N R k0 k1 n) k0 k1 l l (i : Int) := rfl
    rw [step]
    unfold ref09_Same_l0B
    by_cases hil : i < l.length
    · rw [if_t (by omega), nth_lt hil, bind_some', bind_some', wrap_succ hil (by omega)]
      simp only [decide_true, Bool.and_true, Bool.not_true, cond_false]
      exact same_loop N R l hl k0 k1 n (i + 1) (by omega)
    · rw [if_f (by omega)]

theorem same_eq (l : List LkT) (hl : l.length ≤ 100000) : ref09_Same big l l = some (true, ()) := by
  unfold ref09_Same ref09_Same_cps
  rw [dec_t rfl]
  exact same_loop big _ l (by omega) _ _ big 0 (big_gt _ (by omega))

theorem plays_l4 (R : Type) (s : List ActT) (hsl : s.length ≤ 9223372036854775807) (i : Nat) (hi : i < s.length) (h60 : i < 60) (g w : List LkT) (hg : g.length ≤ 1000) (hf : FineL g) (k0 : List ActT → Int → List LkT → List LkT → Option R) (k1 : List ActT → Bool → Int → List LkT → List LkT → Option R) :
    ∀ (n k : Nat), 60 - k < n → k ≤ 60 → law09_LockPlays_l4 big R g w k0 k1 n s (i : Int) (k : Int) g w = k0 s (i : Int) g w
  | 0, k, h, _ => by omega
  | n + 1, k, h, hk => by
    have step : law09_LockPlays_l4 big R g w k0 k1 (n + 1) s (i : Int) (k : Int) g w = law09_LockPlays_l4B big R g w (law09_LockPlays_l4 big R g w k0 k1 n) k0 k1 s (i : Int) (k : Int) g w := rfl
    rw [step]
    unfold law09_LockPlays_l4B
    by_cases hki : k ≤ i
    · have hks : k < s.length := by omega
      have hfl := List.length_filter_le (hadL s[k].2.1.1) g
      rw [if_t (by omega), nth_lt hks, bind_some', granted_eq _ g w (by omega) hf, bind_some', all_eq _ (by dsimp only; omega), bind_some', refGranted_eq _ g w (by omega), bind_some', same_eq _ (by dsimp only; omega), bind_some', wrap_succ hks hsl]
      exact plays_l4 R s hsl i hi h60 g w hg hf k0 k1 n (k + 1) (by omega) (by omega)
    · rw [if_f (by omega)]

theorem plays_l3 (R : Type) (s : List ActT) (i : Int) (a b c d : List LkT) (o : List Int) (hl : o.length ≤ 1000000) (k0 : List ActT → Int → Option R) (k1 : List ActT → Bool → Int → Option R) :
    ∀ (n j : Nat), o.length - j < n → law09_LockPlays_l3 big R a b c d k0 k1 n s i o o (j : Int) = k0 s i
  | 0, j, h => by omega
  | n + 1, j, h => by
    have step : law09_LockPlays_l3 big R a b c d k0 k1 (n + 1) s i o o (j : Int) = law09_LockPlays_l3B big R a b c d (law09_LockPlays_l3 big R a b c d k0 k1 n) k0 k1 s i o o (j : Int) := rfl
    rw [step]
    unfold law09_LockPlays_l3B
    by_cases hj : j < o.length
    · rw [if_t (by omega), nth_lt hj, bind_some', bind_some', dec_t rfl, wrap_succ hj (by omega)]
      exact plays_l3 R s i a b c d o hl k0 k1 n (j + 1) (by omega)
    · rw [if_f (by omega)]

theorem plays_j2 (R : Type) (s : List ActT) (hsl : s.length ≤ 9223372036854775807) (i : Nat) (hi : i < s.length) (h60 : i < 60) (g w : List LkT) (hg : g.length ≤ 1000) (hw : w.length ≤ 1000) (hf : FineL g) (hfw : FineL w) (o : List Int) (ho : o.length ≤ 1000000) (k0 : List ActT → Int → List LkT → List LkT → Option R) (k1 : List ActT → Bool → Int → List LkT → List LkT → Option R) :
    law09_LockPlays_j2 big R g w g w k0 k1 s (i : Int) true o o = k0 s (i : Int) g w := by
  unfold law09_LockPlays_j2
  rw [dec_t rfl]
  simp only [Bool.not_true, cond_false]
  refine (plays_l3 R s i g w g w o ho _ _ big 0 (big_gt _ (by omega))).trans ?_
  rw [waiting_eq g w (by omega) hfw, bind_some', all_eq w (by omega), bind_some', same_eq w (by omega), bind_some']
  exact plays_l4 R s hsl i hi h60 g w hg hf _ _ big 0 (big_gt _ (by omega)) (by omega)

theorem look_lens : ∀ (l : List LkT) (o : List Int) (lf g : List LkT), (lookL l o lf g).1.length ≤ o.length + l.length ∧ (lookL l o lf g).2.1.length + (lookL l o lf g).2.2.1.length = g.length + lf.length + l.length
  | [], o, lf, g => by simp [lookL]
  | x :: r, o, lf, g => by
    unfold lookL
    cases (clashesL g x || clashesL lf x) with
    | true =>
      have := look_lens r o (lf ++ [x]) g
      simp only [cond_true, List.length_cons, List.length_append, List.length_nil] at this ⊢
      omega
    | false =>
      have := look_lens r (o ++ [x.1]) lf (g ++ [x])
      simp only [cond_false, List.length_cons, List.length_append, List.length_nil] at this ⊢
      omega

theorem look_fine : ∀ (l : List LkT) (o : List Int) (lf g : List LkT), FineL l → FineL lf → FineL g → FineL (lookL l o lf g).2.1 ∧ FineL (lookL l o lf g).2.2.1
  | [], o, lf, g, _, h2, h3 => ⟨h3, h2⟩
  | x :: r, o, lf, g, h1, h2, h3 => by
    have hx := h1 x List.mem_cons_self
    have hr : FineL r := fun y hy => h1 y (List.mem_cons_of_mem _ hy)
    unfold lookL
    cases (clashesL g x || clashesL lf x) with
    | true => exact look_fine r o (lf ++ [x]) g hr (h2.snoc hx) h3
    | false => exact look_fine r (o ++ [x.1]) lf (g ++ [x]) hr h2 (h3.snoc hx)

theorem FineL.filter {l : List LkT} (h : FineL l) (p : LkT → Bool) : FineL (l.filter p) := fun x hx => h x (List.mem_filter.1 hx).1

theorem plays_l0 (R : Type) (s : List ActT) (hs : ∀ a, a ∈ s → Fine a.2.1) (hsl : s.length ≤ 9223372036854775807) (k0 : Option R) (k1 : Bool → Option R) :
    ∀ (n i : Nat) (g w : List LkT), 60 - i < n → i ≤ 60 → FineL g → FineL w → g.length + w.length ≤ i → law09_LockPlays_l0 big R k0 k1 n s (i : Int) g w g w = k0
  | 0, i, g, w, h, _, _, _, _ => by omega
  | n + 1, i, g, w, h, hi, hg, hw, hgw => by
    have step : law09_LockPlays_l0 big R k0 k1 (n + 1) s (i : Int) g w g w = law09_LockPlays_l0B big R (law09_LockPlays_l0 big R k0 k1 n) k0 k1 s (i : Int) g w g w := rfl
    rw [step]
    unfold law09_LockPlays_l0B
    by_cases hil : i < s.length
    · rw [if_t (by omega)]
      by_cases h60 : i < 60
      · rw [if_t (by omega)]
        obtain ⟨p, hp⟩ := short_some big s[i].2.1
        have IH : ∀ (g' w' : List LkT), FineL g' → FineL w' → g'.length + w'.length ≤ i + 1 → law09_LockPlays_l0 big R k0 k1 n s (IntKind.wrap .i64 ((i : Int) + 1)) g' w' g' w' = k0 := fun g' w' h1 h2 h3 => by
          rw [wrap_succ hil hsl]
          exact plays_l0 R s hs hsl k0 k1 n (i + 1) g' w' (by omega) (by omega) h1 h2 h3
        rw [nth_lt hil, bind_some', hp, bind_some']
        cases p with
        | false => exact IH g w hg hw (by omega)
        | true =>
          simp only [Bool.not_true, cond_false]
          have hx := hs _ (List.getElem_mem hil)
          cases decide (s[i].1 = 1) with
          | true =>
            have hq := askL_fine hx hg hw
            have hn := askL_len g w s[i].2.1
            simp only [cond_true]
            rw [ask_eq g w s[i].2.1 hx (by omega) (by omega), bind_some', show law09_told big s[i].2.1.1 s[i].2.1.2.1 s[i].2.1.2.2.1 s[i].2.1.2.2.2.1 s[i].2.1.2.2.2.2.1 = some s[i].2.1 from rfl, bind_some', refAsk_eq g w s[i].2.1 (by omega) (by omega), bind_some']
            rw [dec_t rfl, show ((askL g w s[i].2.1).1 == (askL g w s[i].2.1).1) = true from beq_self_eq_true _, cond_true]
            refine (plays_j2 R s hsl i hil h60 _ _ (by omega) (by omega) hq.1 hq.2 [] (by simp) _ _).trans ?_
            exact IH _ _ hq.1 hq.2 (by omega)
          | false =>
            simp only [cond_false]
            cases decide (s[i].1 = 2) with
            | true =>
              have hl1 := look_lens (w.filter (keepL s[i].2.1.1)) [] [] (g.filter (keepL s[i].2.1.1))
              have hl2 := List.length_filter_le (keepL s[i].2.1.1) w
              have hl3 := List.length_filter_le (keepL s[i].2.1.1) g
              have hq := look_fine (w.filter (keepL s[i].2.1.1)) [] [] (g.filter (keepL s[i].2.1.1)) (hw.filter _) (fun _ h => (List.not_mem_nil h).elim) (hg.filter _)
              simp only [List.length_nil] at hl1
              simp only [cond_true]
              rw [drop_eq _ g w (by omega) (by omega), bind_some', refDrop_eq _ g w (by omega) (by omega), bind_some']
              unfold dropL cancelL
              refine (plays_j2 R s hsl i hil h60 _ _ (by omega) (by omega) hq.1 hq.2 _ (by omega) _ _).trans ?_
              exact IH _ _ hq.1 hq.2 (by omega)
            | false =>
              simp only [cond_false]
              cases decide (s[i].1 = 3) with
              | true =>
                have hl1 := look_lens (w.filter (keepL s[i].2.1.1)) [] [] g
                have hl2 := List.length_filter_le (keepL s[i].2.1.1) w
                have hq := look_fine (w.filter (keepL s[i].2.1.1)) [] [] g (hw.filter _) (fun _ h => (List.not_mem_nil h).elim) hg
                simp only [List.length_nil] at hl1
                simp only [cond_true]
                rw [cancel_eq _ g w (by omega) (by omega), bind_some', refCancel_eq _ g w (by omega) (by omega), bind_some']
                unfold cancelL
                refine (plays_j2 R s hsl i hil h60 _ _ (by omega) (by omega) hq.1 hq.2 _ (by omega) _ _).trans ?_
                exact IH _ _ hq.1 hq.2 (by omega)
              | false =>
                simp only [cond_false]
                refine (plays_j2 R s hsl i hil h60 g w (by omega) (by omega) hg hw [] (by simp) _ _).trans ?_
                exact IH _ _ hg hw (by omega)
      · rw [if_f (by omega)]
    · rw [if_f (by omega)]

theorem LockPlays_all (s : List ActT) (hs : ∀ a, a ∈ s → Fine a.2.1) (hsl : s.length ≤ 9223372036854775807) : law09_LockPlays big s = some (true, ()) := by
  unfold law09_LockPlays law09_LockPlays_cps
  rw [show lock_New big = some ([], ([], ())) from rfl, bind_some', alive09]
  exact plays_l0 _ s hs hsl _ _ big 0 [] [] (big_gt _ (by omega)) (by omega) (fun _ h => (List.not_mem_nil h).elim) (fun _ h => (List.not_mem_nil h).elim) (by simp)

theorem LockPlays_pure : LockPlays_Pure := fun x hx => by
  have h3 := hx.1.1
  simp only [Ty.bytes, IntKind.bits] at h3
  exact LockPlays_all x.1 (script_fine hx.1) (by omega)

end Go.Proofs.Ytkeejnlicagjiab.E
