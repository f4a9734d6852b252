/-
  The statement LockEnds of the program is proved: for every input that the row speaks of, the law answers true.
  Conditions: those that the statement's row prints, and no other. This text: plain laws of the pure functions.
-/
import Derived.Test.YtkeejnlicagjiabLockEndsP3
set_option linter.unusedVariables false
set_option linter.unusedSimpArgs false
/-! Locks: what stays true of a table. -/
namespace Go.Proofs.Ytkeejnlicagjiab.E
open Go.Ev

/-- Who waits clashes with a granted lock, or with one that waits ahead. -/
def WaitOk (g w : List LkT) : Prop := ∀ k (h : k < w.length), (clashesL g w[k] || clashesL (w.take k) w[k]) = true
def NoClash (g : List LkT) : Prop := ∀ a b, a ∈ g → b ∈ g → clash a b = false
def Apart (w : List LkT) : Prop := w.Pairwise fun a b => a.1 ≠ b.1

theorem clashesL_mono {g g' : List LkT} (h : ∀ y, y ∈ g → y ∈ g') {x : LkT} (hc : clashesL g x = true) : clashesL g' x = true := by
  obtain ⟨y, h1, h2⟩ := List.any_eq_true.1 hc
  exact List.any_eq_true.2 ⟨y, h y h1, h2⟩

theorem clashesL_false {g : List LkT} {x : LkT} (h : clashesL g x = false) : ∀ y, y ∈ g → clash x y = false := by
  intro y hy
  cases hc : clash x y with
  | false => rfl
  | true =>
    have : clashesL g x = true := List.any_eq_true.2 ⟨y, hy, hc⟩
    rw [h] at this; cases this

theorem WaitOk.nil (g : List LkT) : WaitOk g [] := fun k h => by cases h

theorem WaitOk.mono {g g' w : List LkT} (hs : ∀ y, y ∈ g → y ∈ g') (h : WaitOk g w) : WaitOk g' w := by
  intro k hk
  have := h k hk
  rw [Bool.or_eq_true] at this ⊢
  exact this.imp (clashesL_mono hs) id

theorem WaitOk.snoc {g w : List LkT} {x : LkT} (h : WaitOk g w) (hx : (clashesL g x || clashesL w x) = true) : WaitOk g (w ++ [x]) := by
  intro k hk
  by_cases hkl : k < w.length
  · rw [List.getElem_append_left hkl, List.take_append_of_le_length (by omega)]
    exact h k hkl
  · have e : k = w.length := by simp at hk; omega
    subst e
    simpa using hx

theorem NoClash.snoc {g : List LkT} {x : LkT} (h : NoClash g) (hx : clashesL g x = false) : NoClash (g ++ [x]) := by
  intro a b ha hb
  rcases List.mem_append.1 ha with ha | ha <;> rcases List.mem_append.1 hb with hb | hb
  · exact h a b ha hb
  · rw [List.mem_singleton.1 hb, clash_comm]; exact clashesL_false hx a ha
  · rw [List.mem_singleton.1 ha]; exact clashesL_false hx b hb
  · rw [List.mem_singleton.1 ha, List.mem_singleton.1 hb]; exact clash_self x x rfl

theorem NoClash.filter {g : List LkT} (p : LkT → Bool) (h : NoClash g) : NoClash (g.filter p) := fun a b ha hb => h a b (List.mem_filter.1 ha).1 (List.mem_filter.1 hb).1

theorem Apart.snoc {w : List LkT} {x : LkT} (h : Apart w) (hx : waitsL w x.1 = false) : Apart (w ++ [x]) := by
  refine List.pairwise_append.2 ⟨h, List.pairwise_singleton _ _, ?_⟩
  intro a ha b hb e
  rw [List.mem_singleton.1 hb] at e
  have : waitsL w x.1 = true := List.any_eq_true.2 ⟨a, ha, by simp [e]⟩
  rw [hx] at this; cases this

structure Table (g w : List LkT) : Prop where
  nc : NoClash g
  wo : WaitOk g w
  ap : Apart w

theorem Table.nil : Table [] [] := ⟨fun _ _ h => (List.not_mem_nil h).elim, WaitOk.nil _, List.Pairwise.nil⟩

theorem Table.ask {g w : List LkT} (h : Table g w) (x : LkT) : Table (askL g w x).2.2.1 (askL g w x).2.2.2.1 := by
  unfold askL
  cases rightL x with
  | false => exact h
  | true =>
    cases hw : waitsL w x.1 with
    | true => exact h
    | false =>
      cases coveredL g x with
      | true => exact h
      | false =>
        cases decide (1024 ≤ g.length + w.length) with
        | true => exact h
        | false =>
          cases hc : (clashesL g x || clashesL w x) with
          | true => exact ⟨h.nc, h.wo.snoc hc, h.ap.snoc hw⟩
          | false =>
            rw [Bool.or_eq_false_iff] at hc
            exact ⟨h.nc.snoc hc.1, h.wo.mono fun y hy => List.mem_append_left _ hy, h.ap⟩

theorem look_all (P : LkT → Prop) : ∀ (l : List LkT) (o : List Int) (lf g : List LkT), (∀ x, x ∈ l → P x) → (∀ x, x ∈ lf → P x) → (∀ x, x ∈ g → P x) →
    (∀ x, x ∈ (lookL l o lf g).2.1 → P x) ∧ (∀ x, x ∈ (lookL l o lf g).2.2.1 → P x)
  | [], o, lf, g, _, h2, h3 => ⟨h3, h2⟩
  | x :: r, o, lf, g, h1, h2, h3 => by
    have hx := h1 x List.mem_cons_self
    have hr : ∀ y, y ∈ r → P y := fun y hy => h1 y (List.mem_cons_of_mem _ hy)
    have hs : ∀ l : List LkT, (∀ y, y ∈ l → P y) → ∀ y, y ∈ l ++ [x] → P y := fun l hl y hy => by
      rcases List.mem_append.1 hy with hy | hy
      · exact hl y hy
      · rw [List.mem_singleton.1 hy]; exact hx
    unfold lookL
    cases (clashesL g x || clashesL lf x) with
    | true => exact look_all P r o (lf ++ [x]) g hr (hs lf h2) h3
    | false => exact look_all P r (o ++ [x.1]) lf (g ++ [x]) hr h2 (hs g h3)

theorem look_len : ∀ (l : List LkT) (o : List Int) (lf g : List LkT), (lookL l o lf g).1.length + (lookL l o lf g).2.2.1.length = o.length + lf.length + l.length ∧ (lookL l o lf g).2.1.length + (lookL l o lf g).2.2.1.length = g.length + lf.length + l.length
  | [], o, lf, g => by simp [lookL]
  | x :: r, o, lf, g => by
    unfold lookL
    cases (clashesL g x || clashesL lf x) with
    | true =>
      have := look_len r o (lf ++ [x]) g
      simp only [cond_true, List.length_cons, List.length_append, List.length_nil] at this ⊢
      omega
    | false =>
      have := look_len r (o ++ [x.1]) lf (g ++ [x])
      simp only [cond_false, List.length_cons, List.length_append, List.length_nil] at this ⊢
      omega

theorem look_table : ∀ (l : List LkT) (o : List Int) (lf g : List LkT), NoClash g → WaitOk g lf → Apart (lf ++ l) → Table (lookL l o lf g).2.1 (lookL l o lf g).2.2.1
  | [], o, lf, g, h1, h2, h3 => ⟨h1, h2, by rw [List.append_nil] at h3; exact h3⟩
  | x :: r, o, lf, g, h1, h2, h3 => by
    unfold lookL
    cases hc : (clashesL g x || clashesL lf x) with
    | true => exact look_table r o (lf ++ [x]) g h1 (h2.snoc hc) (by rw [List.append_assoc]; exact h3)
    | false =>
      rw [Bool.or_eq_false_iff] at hc
      refine look_table r (o ++ [x.1]) lf (g ++ [x]) (h1.snoc hc.1) (h2.mono fun y hy => List.mem_append_left _ hy) ?_
      exact List.Pairwise.sublist (List.Sublist.append_left (List.sublist_cons_self x r) lf) h3

theorem Table.cancel {g w : List LkT} (h : Table g w) (tx : Int) : Table (cancelL tx g w).2.1 (cancelL tx g w).2.2.1 :=
  look_table _ _ _ _ h.nc (WaitOk.nil _) (by rw [List.nil_append]; exact List.Pairwise.sublist List.filter_sublist h.ap)

theorem Table.drop {g w : List LkT} (h : Table g w) (tx : Int) : Table (dropL tx g w).2.1 (dropL tx g w).2.2.1 :=
  look_table _ _ _ _ (h.nc.filter _) (WaitOk.nil _) (by rw [List.nil_append]; exact List.Pairwise.sublist List.filter_sublist h.ap)

theorem cancel_all (P : LkT → Prop) {g w : List LkT} (tx : Int) (hg : ∀ x, x ∈ g → P x) (hw : ∀ x, x ∈ w → P x) :
    (∀ x, x ∈ (cancelL tx g w).2.1 → P x) ∧ (∀ x, x ∈ (cancelL tx g w).2.2.1 → P x) :=
  look_all P _ _ _ _ (fun x hx => hw x (List.mem_filter.1 hx).1) (fun _ h => (List.not_mem_nil h).elim) hg

theorem drop_all (P : LkT → Prop) {g w : List LkT} (tx : Int) (hg : ∀ x, x ∈ g → P x) (hw : ∀ x, x ∈ w → P x) :
    (∀ x, x ∈ (dropL tx g w).2.1 → P x) ∧ (∀ x, x ∈ (dropL tx g w).2.2.1 → P x) :=
  cancel_all P tx (fun x hx => hg x (List.mem_filter.1 hx).1) hw

theorem ask_all (P : LkT → Prop) {g w : List LkT} {x : LkT} (hx : P x) (hg : ∀ x, x ∈ g → P x) (hw : ∀ x, x ∈ w → P x) :
    (∀ y, y ∈ (askL g w x).2.2.1 → P y) ∧ (∀ y, y ∈ (askL g w x).2.2.2.1 → P y) := by
  have hs : ∀ l : List LkT, (∀ y, y ∈ l → P y) → ∀ y, y ∈ l ++ [x] → P y := fun l hl y hy => by
    rcases List.mem_append.1 hy with hy | hy
    · exact hl y hy
    · rw [List.mem_singleton.1 hy]; exact hx
  exact askL_cases g w x (fun g w => (∀ y, y ∈ g → P y) ∧ (∀ y, y ∈ w → P y)) ⟨hg, hw⟩ ⟨hg, hs w hw⟩ ⟨hs g hg, hw⟩

theorem cancel_len (g w : List LkT) (tx : Int) : (cancelL tx g w).2.1.length + (cancelL tx g w).2.2.1.length ≤ g.length + w.length := by
  have := (look_len (w.filter (keepL tx)) [] [] g).2
  have h2 := List.length_filter_le (keepL tx) w
  unfold cancelL
  simp only [List.length_nil] at this
  omega

theorem drop_len (g w : List LkT) (tx : Int) : (dropL tx g w).2.1.length + (dropL tx g w).2.2.1.length ≤ g.length + w.length := by
  have := cancel_len (g.filter (keepL tx)) w tx
  have h2 := List.length_filter_le (keepL tx) g
  unfold dropL
  omega

/-- What stays true of the table while a script is gone through. -/
structure Inv (txs : List Int) (i : Nat) (g w : List LkT) : Prop where
  tb : Table g w
  fg : FineL g
  fw : FineL w
  ln : g.length + w.length ≤ i
  tg : ∀ y, y ∈ g → y.1 ∈ txs
  tw : ∀ y, y ∈ w → y.1 ∈ txs

theorem Inv.up {txs : List Int} {i : Nat} {g w : List LkT} (h : Inv txs i g w) : Inv txs (i + 1) g w := ⟨h.tb, h.fg, h.fw, by have := h.ln; omega, h.tg, h.tw⟩
theorem Inv.ask {txs : List Int} {i : Nat} {g w : List LkT} (h : Inv txs i g w) {x : LkT} (hx : Fine x) (hm : x.1 ∈ txs) : Inv txs (i + 1) (askL g w x).2.2.1 (askL g w x).2.2.2.1 := by
  have h1 := ask_all (fun y => y.1 ∈ txs) hm h.tg h.tw
  have h2 := askL_fine hx h.fg h.fw
  exact ⟨h.tb.ask x, h2.1, h2.2, by have := h.ln; have := askL_len g w x; omega, h1.1, h1.2⟩
theorem Inv.cancel {txs : List Int} {i : Nat} {g w : List LkT} (h : Inv txs i g w) (tx : Int) : Inv txs i (cancelL tx g w).2.1 (cancelL tx g w).2.2.1 := by
  have h1 := cancel_all (fun y => y.1 ∈ txs) tx h.tg h.tw
  have h2 := cancel_all Fine tx h.fg h.fw
  exact ⟨h.tb.cancel tx, h2.1, h2.2, by have := h.ln; have := cancel_len g w tx; omega, h1.1, h1.2⟩
theorem Inv.drop {txs : List Int} {i : Nat} {g w : List LkT} (h : Inv txs i g w) (tx : Int) : Inv txs i (dropL tx g w).2.1 (dropL tx g w).2.2.1 := by
  have h1 := drop_all (fun y => y.1 ∈ txs) tx h.tg h.tw
  have h2 := drop_all Fine tx h.fg h.fw
  exact ⟨h.tb.drop tx, h2.1, h2.2, by have := h.ln; have := drop_len g w tx; omega, h1.1, h1.2⟩

/-- The transactions that a script speaks of. -/
theorem tx_in_loop (R : Type) (s : List ActT) (out : List Int) (i : Nat) (hi : i < s.length) (ho : out.length ≤ 1000) (k0 : List ActT → List Int → Int → Bool → Option R) :
    ∀ (n j : Nat) (b : Bool), out.length - j < n → law09_transactions_l1 big R k0 n s out (i : Int) b (j : Int) = k0 s out (i : Int) (b || (out.drop j).any fun t => decide (t = s[i].2.1.1))
  | 0, j, b, h => by omega
  | n + 1, j, b, h => by
    have step : law09_transactions_l1 big R k0 (n + 1) s out (i : Int) b (j : Int) = law09_transactions_l1B big R (law09_transactions_l1 big R k0 n) k0 s out (i : Int) b (j : Int) := rfl
    rw [step]
    unfold law09_transactions_l1B
    by_cases hj : j < out.length
    · rw [if_t (by omega), List.drop_eq_getElem_cons hj, List.any_cons, wrap_succ hj (by omega)]
      cases b with
      | true => rw [cond_true, tx_in_loop R s out i hi ho k0 n (j + 1) true (by omega)]; rfl
      | false =>
        rw [cond_false, nth_lt hj, bind_some', nth_lt hi, bind_some', tx_in_loop R s out i hi ho k0 n (j + 1) _ (by omega)]
        rw [Bool.false_or]
    · rw [if_f (by omega), List.drop_eq_nil_of_le (by omega), List.any_nil, Bool.or_false]

theorem tx_loop (R : Type) (s : List ActT) (hl : s.length ≤ 9223372036854775807) (k0 : List Int → Option R) :
    ∀ (n i : Nat) (out : List Int), 60 - i < n → i ≤ 60 → out.length ≤ i → (∀ j (h : j < s.length), j < i → s[j].2.1.1 ∈ out) →
      ∃ out', law09_transactions_l0 big R k0 n s out (i : Int) = k0 out' ∧ out'.length ≤ 60 ∧ ∀ j (h : j < s.length), j < 60 → s[j].2.1.1 ∈ out'
  | 0, i, out, h, _, _, _ => by omega
  | n + 1, i, out, h, hi, ho, hm => by
    have step : law09_transactions_l0 big R k0 (n + 1) s out (i : Int) = law09_transactions_l0B big R (law09_transactions_l0 big R k0 n) k0 s out (i : Int) := rfl
    rw [step]
    unfold law09_transactions_l0B
    by_cases hil : i < s.length
    · rw [if_t (by omega)]
      by_cases h60 : i < 60
      · rw [if_t (by omega)]
        have e := tx_in_loop R s out i hil (by omega) (fun (v6 : List ActT) (v7 : (List Int)) (v8 : Int) (v9 : Bool) =>
          (bif (!v9) then
          (Option.bind (nth v6 v8) fun (v10 : (Int × (LkT × Unit))) =>
          (bif (room 8 (v7.length + ([v10.2.1.1] : (List Int)).length)) then
          (law09_transactions_l0 big R k0 n v6 (v7 ++ ([v10.2.1.1] : (List Int))) (IntKind.wrap .i64 (v8 + 1)))
          else
          none))
          else
          (law09_transactions_l0 big R k0 n v6 v7 (IntKind.wrap .i64 (v8 + 1))))) big 0 false (big_gt _ (by omega))
        rw [List.drop_zero, Bool.false_or] at e
        have e' := e
        simp only [Int.natCast_zero] at e'
        rw [show ((0 : Nat) : Int) = (0 : Int) from rfl] at e
        have key : ∃ out', (bif (!(out.any fun t => decide (t = s[i].2.1.1))) then
          (Option.bind (nth s (i : Int)) fun (v10 : (Int × (LkT × Unit))) =>
          (bif (room 8 (out.length + ([v10.2.1.1] : (List Int)).length)) then
          (law09_transactions_l0 big R k0 n s (out ++ ([v10.2.1.1] : (List Int))) (IntKind.wrap .i64 ((i : Int) + 1)))
          else
          none))
          else
          (law09_transactions_l0 big R k0 n s out (IntKind.wrap .i64 ((i : Int) + 1)))) = k0 out' ∧ out'.length ≤ 60 ∧ ∀ j (h : j < s.length), j < 60 → s[j].2.1.1 ∈ out' := by
          rw [wrap_succ hil hl]
          cases ha : out.any (fun t => decide (t = s[i].2.1.1)) with
          | true =>
            simp only [Bool.not_true, cond_false]
            refine tx_loop R s hl k0 n (i + 1) out (by omega) (by omega) (by omega) fun j hj hji => ?_
            by_cases hj2 : j < i
            · exact hm j hj hj2
            · have : j = i := by omega
              subst this
              obtain ⟨t, ht, hte⟩ := List.any_eq_true.1 ha
              rw [← of_decide_eq_true hte]; exact ht
          | false =>
            simp only [Bool.not_false, cond_true]
            rw [nth_lt hil, bind_some', cond_t (room_of (by simp; omega))]
            refine tx_loop R s hl k0 n (i + 1) (out ++ [s[i].2.1.1]) (by omega) (by omega) (by simp; omega) fun j hj hji => ?_
            by_cases hj2 : j < i
            · exact List.mem_append_left _ (hm j hj hj2)
            · have : j = i := by omega
              subst this
              simp
        obtain ⟨out', k1, k2⟩ := key
        exact ⟨out', e.trans k1, k2⟩
      · rw [if_f (by omega)]; exact ⟨out, rfl, by omega, fun j hj h6 => hm j hj (by omega)⟩
    · rw [if_f (by omega)]; exact ⟨out, rfl, by omega, fun j hj h6 => hm j hj (by omega)⟩

theorem tx_eq (s : List ActT) (hl : s.length ≤ 9223372036854775807) : ∃ txs, law09_transactions big s = some (txs, ()) ∧ txs.length ≤ 60 ∧ ∀ j (h : j < s.length), j < 60 → s[j].2.1.1 ∈ txs := by
  unfold law09_transactions law09_transactions_cps
  obtain ⟨t, h1, h2⟩ := tx_loop _ s hl (fun (v2 : (List Int)) => some (v2, ())) big 0 [] (big_gt _ (by omega)) (by omega) (by simp) (fun j _ h => by omega)
  exact ⟨t, h1, h2⟩

end Go.Proofs.Ytkeejnlicagjiab.E
