/-
  The statement LockEnds of the program is proved: for every input that the row speaks of, the law answers true.
  Conditions: those that the statement's row prints, and no other. This text: plain laws of the pure functions.
-/
import Derived.Test.YtkeejnlicagjiabLockEndsP1
set_option linter.unusedVariables false
set_option linter.unusedSimpArgs false
/-! Locks: what is let go, what waits. -/
namespace Go.Proofs.Ytkeejnlicagjiab.E
open Go.Ev

def keepL (tx : Int) (y : LkT) : Bool := !decide (y.1 = tx)

theorem del_loop (N : Nat) (R : Type) (l : List LkT) (tx : Int) (hl : l.length ≤ 9223372036854775807) (k0 : Int → List LkT → Option R) :
    ∀ (n i j : Nat) (d : List LkT), l.length - j < n → i ≤ j → j ≤ l.length → d.length = l.length → d.take i = (l.take j).filter (keepL tx) → d.drop j = l.drop j →
      ∃ (i' : Nat) (d' : List LkT), slices_DeleteFunc_lock_Lock_lock_Lock_l0 N R tx k0 n (i : Int) (j : Int) d = k0 (i' : Int) d' ∧ i' ≤ l.length ∧ d'.length = l.length ∧ d'.take i' = l.filter (keepL tx)
  | 0, i, j, d, h, _, _, _, _, _ => by omega
  | n + 1, i, j, d, h, hij, hj, hd, ht, hr => by
    have step : slices_DeleteFunc_lock_Lock_lock_Lock_l0 N R tx k0 (n + 1) (i : Int) (j : Int) d = slices_DeleteFunc_lock_Lock_lock_Lock_l0B N R tx (slices_DeleteFunc_lock_Lock_lock_Lock_l0 N R tx k0 n) k0 (i : Int) (j : Int) d := rfl
    rw [step]
    unfold slices_DeleteFunc_lock_Lock_lock_Lock_l0B
    by_cases hjl : j < l.length
    · have hjd : j < d.length := by omega
      have hid : i < d.length := by omega
      have hgj : d[j] = l[j] := by
        have h1 : (d.drop j)[0]? = (l.drop j)[0]? := by rw [hr]
        rw [List.getElem?_drop, List.getElem?_drop] at h1
        simp only [Nat.add_zero] at h1
        rw [List.getElem?_eq_getElem hjd, List.getElem?_eq_getElem hjl] at h1
        exact Option.some.inj h1
      have hdrop : ∀ e : List LkT, e.drop j = l.drop j → e.drop (j + 1) = l.drop (j + 1) := fun e he => by
        rw [← List.drop_drop, he, List.drop_drop]
      have htk : l.take (j + 1) = l.take j ++ [l[j]] := List.take_succ_eq_append_getElem hjl
      rw [if_t (by omega), nth_lt hjd, bind_some', Int.toNat_natCast, List.getElem?_eq_getElem hjd, bind_some', show lock_without_c1 N d[j].1 d[j].2.1 d[j].2.2.1 d[j].2.2.2.1 d[j].2.2.2.2.1 tx = some (decide (d[j].1 = tx), ()) from rfl, bind_some']
      cases hq : decide (d[j].1 = tx) with
      | true =>
        simp only [Bool.not_true, cond_false]
        rw [wrap_succ hjl hl]
        refine del_loop N R l tx hl k0 n i (j + 1) d (by omega) (by omega) (by omega) hd ?_ (hdrop d hr)
        rw [htk, List.filter_append, ht]
        rw [hgj] at hq
        simp [keepL, of_decide_eq_true hq]
      | false =>
        simp only [Bool.not_false, cond_true]
        rw [nth_lt hid, bind_some', Int.toNat_natCast, List.getElem?_eq_getElem hid, bind_some', wrap_succ hjl hl, wrap_succ (show i < l.length by omega) hl]
        refine del_loop N R l tx hl k0 n (i + 1) (j + 1) (d.set i d[j]) (by omega) (by omega) (by omega) (by simpa using hd) ?_ ?_
        · rw [htk, List.filter_append, ← ht]
          have hki : (keepL tx) l[j] = true := by rw [hgj] at hq; simpa [keepL] using hq
          rw [List.filter_cons_of_pos hki, List.filter_nil, ← hgj]
          apply List.ext_getElem?; intro q
          rw [List.getElem?_take]
          by_cases hq1 : q < i
          · rw [if_pos (by omega), List.getElem?_set_ne (by omega), List.getElem?_append_left (by simp; omega), List.getElem?_take, if_pos hq1]
          · by_cases hq2 : q = i
            · subst hq2
              rw [if_pos (by omega), List.getElem?_set_self hid, List.getElem?_append_right (by simp; omega)]
              simp [Nat.min_eq_left (Nat.le_of_lt hid)]
            · rw [if_neg (by omega), List.getElem?_eq_none (by simp; omega)]
        · rw [List.drop_set_of_lt (by omega)]; exact hdrop d hr
    · rw [if_f (by omega)]
      have e : j = l.length := by omega
      subst e
      exact ⟨i, d, rfl, hij, hd, by rw [ht, List.take_length]⟩

theorem findIdx_none {α : Type} {p : α → Bool} {l : List α} (h : l.findIdx? p = none) : ∀ x, x ∈ l → p x = false := by
  intro x hx
  have := any_idx p l
  rw [h] at this
  cases hp : p x with
  | false => rfl
  | true =>
    have h2 : l.any p = true := List.any_eq_true.2 ⟨x, hx, hp⟩
    rw [this] at h2; cases h2

theorem without_eq (tx : Int) (l : List LkT) (hl : l.length ≤ 1000000) : lock_without big tx l = some (l.filter (keepL tx), ()) := by
  unfold lock_without lock_without_cps slices_DeleteFunc_lock_Lock_lock_Lock slices_DeleteFunc_lock_Lock_lock_Lock_cps
  rw [idx_3_eq l tx (fun y => decide (y.1 = tx)) (fun y => rfl) hl, bind_some']
  cases hf : l.findIdx? (fun y => decide (y.1 = tx)) with
  | none =>
    have hk : l.filter (keepL tx) = l := List.filter_eq_self.2 fun x hx => by
      have := findIdx_none hf x hx
      simp only [keepL, this, Bool.not_false]
    dsimp only
    rw [if_t rfl, bind_some', hk]
  | some m =>
    dsimp only
    rw [if_f (show ¬ ((m : Int) = -1) by omega)]
    rw [List.findIdx?_eq_some_iff_getElem] at hf
    obtain ⟨hm, hpm, hlt⟩ := hf
    rw [wrap_succ hm (by omega)]
    have htake : l.take m = (l.take (m + 1)).filter (keepL tx) := by
      rw [List.take_succ_eq_append_getElem hm, List.filter_append]
      have h1 : (l.take m).filter (keepL tx) = l.take m := List.filter_eq_self.2 fun x hx => by
        obtain ⟨j, hj, e⟩ := List.mem_iff_getElem.1 hx
        simp only [List.length_take] at hj
        have hj2 : j < m := by omega
        have := hlt j hj2
        rw [List.getElem_take] at e
        subst e
        simp only [keepL]
        simpa using this
      have h2 : keepL tx l[m] = false := by simp [keepL, of_decide_eq_true hpm]
      rw [h1]
      simp [h2]
    obtain ⟨i', d', e1, e2, e3, e4⟩ := del_loop big _ l tx (by omega) (fun (v4 : Int) (v5 : List LkT) =>
      (bif (decide (0 ≤ v4 ∧ v4 ≤ ((v5.length : Nat) : Int))) then
      (bif (Nat.ble ((Int.toNat v4) + (v5.length - (Int.toNat v4))) v5.length) then
      (bif (decide (0 ≤ v4 ∧ v4 ≤ (((List.take (Int.toNat v4) v5 ++ (List.replicate (v5.length - (Int.toNat v4)) (0, ([], ([], ([], (0, ()))))) ++ List.drop ((Int.toNat v4) + (v5.length - (Int.toNat v4))) v5)).length : Nat) : Int))) then
      some (tx, ((List.take (Int.toNat v4) (List.take (Int.toNat v4) v5 ++ (List.replicate (v5.length - (Int.toNat v4)) (0, ([], ([], ([], (0, ()))))) ++ List.drop ((Int.toNat v4) + (v5.length - (Int.toNat v4))) v5))), ()))
      else none) else none) else none)) big m (m + 1) l (big_gt _ (by omega) |> Nat.lt_of_le_of_lt (Nat.sub_le _ _)) (by omega) (by omega) rfl htake rfl
    have hb : Nat.ble (i' + (d'.length - i')) d'.length = true := Nat.ble_eq_true_of_le (by omega)
    rw [show ((m + 1 : Nat) : Int) = ((m + 1 : Nat) : Int) from rfl] at e1
    refine (congrArg (fun z : Option (Int × List LkT × Unit) => z.bind fun v3 => some (v3.2.1, ())) e1).trans ?_
    simp only [Int.toNat_natCast]
    rw [if_t (by omega), cond_t hb, if_t (by
      have : ((List.take i' d' ++ (List.replicate (d'.length - i') ((0 : Int), (([] : List UInt8), (([] : List UInt8), (([] : List UInt8), ((0 : Int), ()))))) ++ List.drop (i' + (d'.length - i')) d')).length) = d'.length := by simp; omega
      rw [this]; omega), bind_some']
    rw [List.take_append_of_le_length (by simp; omega), List.take_take, Nat.min_self, e4]

/-- Those that wait are looked at, in order. -/
def lookL : List LkT → List Int → List LkT → List LkT → List Int × (List LkT × (List LkT × Unit))
  | [], o, lf, g => (o, (g, (lf, ())))
  | x :: r, o, lf, g => bif clashesL g x || clashesL lf x then lookL r o (lf ++ [x]) g else lookL r (o ++ [x.1]) lf (g ++ [x])

theorem look_loop (R : Type) (l : List LkT) (hl : l.length ≤ 100000) (k0 : List Int → List LkT → List LkT → Option R) :
    ∀ (n i : Nat) (o : List Int) (lf g : List LkT), l.length - i < n → o.length ≤ i → lf.length ≤ i → g.length ≤ 100000 + i → i ≤ l.length →
      lock_Locks_look_l0 big R l k0 n o (l.length : Int) (i : Int) lf g = (fun p => k0 p.1 p.2.2.1 p.2.1) (lookL (l.drop i) o lf g)
  | 0, i, o, lf, g, h, _, _, _, _ => by omega
  | n + 1, i, o, lf, g, h, ho, hlf, hg, hi => by
    have step : lock_Locks_look_l0 big R l k0 (n + 1) o (l.length : Int) (i : Int) lf g = lock_Locks_look_l0B big R l (lock_Locks_look_l0 big R l k0 n) k0 o (l.length : Int) (i : Int) lf g := rfl
    rw [step]
    unfold lock_Locks_look_l0B
    by_cases hil : i < l.length
    · rw [if_t (by omega), nth_lt hil, bind_some', Int.toNat_natCast, List.getElem?_eq_getElem hil, bind_some', clashes_eq g l[i] (by omega), bind_some', wrap_succ hil (by omega), List.drop_eq_getElem_cons hil]
      unfold lookL
      have hb : ∀ z : List LkT, z.length ≤ 300000 → room 80 (z.length + ([(l[i].1, (l[i].2.1, (l[i].2.2.1, (l[i].2.2.2.1, (l[i].2.2.2.2.1, ())))))] : List LkT).length) = true := fun z hz => room_of (by simp; omega)
      have hb8 : room 8 (o.length + ([l[i].1] : List Int).length) = true := room_of (by simp; omega)
      cases clashesL g l[i] with
      | true =>
        simp only [Bool.true_or, cond_true]
        rw [cond_t (hb lf (by omega))]
        exact look_loop R l hl k0 n (i + 1) o (lf ++ [l[i]]) g (by omega) (by omega) (by simp; omega) (by omega) (by omega)
      | false =>
        simp only [Bool.false_or, cond_false]
        rw [clashes_eq lf l[i] (by omega), bind_some']
        cases clashesL lf l[i] with
        | true =>
          simp only [cond_true]
          rw [cond_t (hb lf (by omega))]
          exact look_loop R l hl k0 n (i + 1) o (lf ++ [l[i]]) g (by omega) (by omega) (by simp; omega) (by omega) (by omega)
        | false =>
          simp only [cond_false]
          rw [cond_t (hb g (by omega)), cond_t hb8]
          exact look_loop R l hl k0 n (i + 1) (o ++ [l[i].1]) lf (g ++ [l[i]]) (by omega) (by simp; omega) (by omega) (by simp; omega) (by omega)
    · rw [if_f (by omega), List.drop_eq_nil_of_le (by omega)]; rfl

theorem look_eq (g w : List LkT) (hg : g.length ≤ 100000) (hw : w.length ≤ 100000) : lock_Locks_look big g w = some (lookL w [] [] g) := by
  unfold lock_Locks_look lock_Locks_look_cps
  have := look_loop _ w hw (fun v3 v4 v5 => some (v3, (v5, (v4, ())))) big 0 [] [] g (big_gt _ (by omega)) (by simp) (by simp) (by omega) (by omega)
  rw [List.drop_zero] at this
  exact this

def cancelL (tx : Int) (g w : List LkT) : List Int × (List LkT × (List LkT × Unit)) := lookL (w.filter (keepL tx)) [] [] g
def dropL (tx : Int) (g w : List LkT) : List Int × (List LkT × (List LkT × Unit)) := cancelL tx (g.filter (keepL tx)) w

theorem cancel_eq (tx : Int) (g w : List LkT) (hg : g.length ≤ 100000) (hw : w.length ≤ 100000) : lock_Locks_Cancel big tx g w = some (cancelL tx g w) := by
  unfold lock_Locks_Cancel lock_Locks_Cancel_cps
  rw [without_eq tx w (by omega), bind_some', look_eq g _ hg (Nat.le_trans (List.length_filter_le _ _) hw), bind_some']; rfl

theorem drop_eq (tx : Int) (g w : List LkT) (hg : g.length ≤ 100000) (hw : w.length ≤ 100000) : lock_Locks_Drop big tx g w = some (dropL tx g w) := by
  unfold lock_Locks_Drop lock_Locks_Drop_cps
  rw [without_eq tx g (by omega), bind_some', cancel_eq tx _ w (Nat.le_trans (List.length_filter_le _ _) hg) hw, bind_some']; rfl

theorem waiting_loop (N : Nat) (R : Type) (g l : List LkT) (hl : l.length ≤ 100000) (hf : ∀ x, x ∈ l → Fine x) (k0 : List LkT → Option R) :
    ∀ (n i : Nat), l.length - i < n → i ≤ l.length → lock_Locks_Waiting_l0 N R g l k0 n (l.take i) (l.length : Int) (i : Int) = k0 l
  | 0, i, h, _ => by omega
  | n + 1, i, h, hi => by
    have step : lock_Locks_Waiting_l0 N R g l k0 (n + 1) (l.take i) (l.length : Int) (i : Int) = lock_Locks_Waiting_l0B N R g l (lock_Locks_Waiting_l0 N R g l k0 n) k0 (l.take i) (l.length : Int) (i : Int) := rfl
    rw [step]
    unfold lock_Locks_Waiting_l0B
    by_cases hil : i < l.length
    · rw [if_t (by omega), nth_lt hil, bind_some', Int.toNat_natCast, List.getElem?_eq_getElem hil, bind_some', copied_eq N l[i] (hf _ (List.getElem_mem hil)), bind_some', wrap_succ hil (by omega),
        cond_t (room_of (by simp; omega))]
      have e : l.take i ++ ([(l[i].1, (l[i].2.1, (l[i].2.2.1, (l[i].2.2.2.1, (l[i].2.2.2.2.1, ())))))] : List LkT) = l.take (i + 1) := (List.take_succ_eq_append_getElem hil).symm
      rw [e]
      exact waiting_loop N R g l hl hf k0 n (i + 1) (by omega) (by omega)
    · rw [if_f (by omega), List.take_of_length_le (by omega)]

theorem waiting_eq (g w : List LkT) (hw : w.length ≤ 100000) (hf : ∀ x, x ∈ w → Fine x) : lock_Locks_Waiting big g w = some (w, ()) := by
  unfold lock_Locks_Waiting lock_Locks_Waiting_cps
  have := waiting_loop big _ g w hw hf (fun v3 => some (v3, ())) big 0 (big_gt _ (by omega)) (by omega)
  exact this

end Go.Proofs.Ytkeejnlicagjiab.E
