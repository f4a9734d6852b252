/-
  The statement LockEnds of the program is proved: for every input that the row speaks of, the law answers true.
  Conditions: those that the statement's row prints, and no other. This text: plain laws of the pure functions.
-/
import Derived.Test.YtkeejnlicagjiabLockEndsP4
set_option linter.unusedVariables false
set_option linter.unusedSimpArgs false
/-! LockEnds. -/
namespace Go.Proofs.Ytkeejnlicagjiab.E
open Go.Ev

theorem split_len (tx : Int) : ∀ l : List LkT, (l.filter (hadL tx)).length + (l.filter (keepL tx)).length = l.length
  | [] => rfl
  | x :: r => by
    have := split_len tx r
    by_cases h : x.1 = tx
    · rw [List.filter_cons_of_pos (show hadL tx x = true by simp [hadL, h]), List.filter_cons_of_neg (show ¬ keepL tx x = true by simp [keepL, h]), List.length_cons, List.length_cons]; omega
    · rw [List.filter_cons_of_neg (show ¬ hadL tx x = true by simp [hadL, h]), List.filter_cons_of_pos (show keepL tx x = true by simp [keepL, h]), List.length_cons, List.length_cons]; omega

theorem ends_l2 (R : Type) (txs : List Int) (wd : Int) (i : Nat) (hi : i < txs.length) (g w W : List LkT) (hl : W.length ≤ 1000000) (k0 : List Int → Int → Int → Int → Option R) :
    ∀ (n j o : Nat), W.length - j < n → o ≤ j → law09_LockEnds_l2 big R g w k0 n txs wd (i : Int) (o : Int) W (j : Int) = k0 txs wd (i : Int) ((o + ((W.drop j).filter (hadL txs[i])).length : Nat) : Int)
  | 0, j, o, h, _ => by omega
  | n + 1, j, o, h, ho => by
    have step : law09_LockEnds_l2 big R g w k0 (n + 1) txs wd (i : Int) (o : Int) W (j : Int) = law09_LockEnds_l2B big R g w (law09_LockEnds_l2 big R g w k0 n) k0 txs wd (i : Int) (o : Int) W (j : Int) := rfl
    rw [step]
    unfold law09_LockEnds_l2B
    by_cases hj : j < W.length
    · rw [if_t (by omega), nth_lt hj, bind_some', nth_lt hi, bind_some', wrap_succ hj (by omega), wrap_succ (show o < W.length by omega) (by omega), List.drop_eq_getElem_cons hj]
      cases hq : decide (W[j].1 = txs[i]) with
      | true =>
        rw [cond_true, ends_l2 R txs wd i hi g w W hl k0 n (j + 1) (o + 1) (by omega) (by omega), List.filter_cons_of_pos (show hadL txs[i] W[j] = true from hq), List.length_cons]
        congr 2; omega
      | false =>
        rw [cond_false, ends_l2 R txs wd i hi g w W hl k0 n (j + 1) o (by omega) (by omega), List.filter_cons_of_neg (show ¬ hadL txs[i] W[j] = true by simp [hadL, of_decide_eq_false hq])]
    · rw [if_f (by omega), List.drop_eq_nil_of_le (by omega)]; rfl

theorem ends_l3 (R : Type) (txs : List Int) (ht : txs.length ≤ 60) (wd : Int) (w : List LkT) (k0 : Int → Option R) (k1 : Bool → Int → Option R) :
    ∀ (n j : Nat), txs.length - j < n → law09_LockEnds_l3 big R [] w k0 k1 n txs wd (j : Int) = k0 wd
  | 0, j, h => by omega
  | n + 1, j, h => by
    have step : law09_LockEnds_l3 big R [] w k0 k1 (n + 1) txs wd (j : Int) = law09_LockEnds_l3B big R [] w (law09_LockEnds_l3 big R [] w k0 k1 n) k0 k1 txs wd (j : Int) := rfl
    rw [step]
    unfold law09_LockEnds_l3B
    by_cases hj : j < txs.length
    · rw [if_t (by omega), nth_lt hj, bind_some', granted_eq _ [] w (by simp) (fun _ h => (List.not_mem_nil h).elim), bind_some', wrap_succ hj (by omega)]
      exact ends_l3 R txs ht wd w k0 k1 n (j + 1) (by omega)
    · rw [if_f (by omega)]

theorem had_none {tx : Int} {l : List LkT} (h : ∀ y, y ∈ l → y.1 ≠ tx) : l.filter (hadL tx) = [] := List.filter_eq_nil_iff.2 fun y hy => by simp [hadL, h y hy]

theorem ends_l1 (R : Type) (txs : List Int) (ht : txs.length ≤ 60) (m : Nat) (hm : m ≤ 61) (k0 : List Int → Int → List LkT → List LkT → Option R) (k1 : Bool → List Int → Int → List LkT → List LkT → Option R) :
    ∀ (n i : Nat) (g w : List LkT), txs.length - i < n → i ≤ txs.length → Inv txs m g w → (∀ y, y ∈ g → y.1 ∉ txs.take i) → (∀ y, y ∈ w → y.1 ∉ txs.take i) →
      law09_LockEnds_l1 big R k0 k1 n txs (w.length : Int) (i : Int) g w = k0 txs 0 [] []
  | 0, i, g, w, h, _, _, _, _ => by omega
  | n + 1, i, g, w, h, hi, hv, hg, hw => by
    have step : law09_LockEnds_l1 big R k0 k1 (n + 1) txs (w.length : Int) (i : Int) g w = law09_LockEnds_l1B big R (law09_LockEnds_l1 big R k0 k1 n) k0 k1 txs (w.length : Int) (i : Int) g w := rfl
    have hln := hv.ln
    rw [step]
    unfold law09_LockEnds_l1B
    by_cases hil : i < txs.length
    · rw [if_t (by omega), waiting_eq g w (by omega) hv.fw, bind_some']
      refine (ends_l2 R txs _ i hil g w w (by omega) _ big 0 0 (big_gt _ (by omega)) (by omega)).trans ?_
      rw [List.drop_zero, Nat.zero_add]
      have hv' := hv.drop txs[i]
      have hl2 := look_len (w.filter (keepL txs[i])) [] [] (g.filter (keepL txs[i]))
      have hsp := split_len txs[i] w
      have hne : (∀ y, y ∈ (dropL txs[i] g w).2.1 → y.1 ≠ txs[i]) ∧ (∀ y, y ∈ (dropL txs[i] g w).2.2.1 → y.1 ≠ txs[i]) := by
        have hk : ∀ l : List LkT, ∀ y, y ∈ l.filter (keepL txs[i]) → y.1 ≠ txs[i] := fun l y hy => by
          have := (List.mem_filter.1 hy).2
          simpa [keepL] using this
        exact look_all _ _ _ _ _ (hk w) (fun _ h => (List.not_mem_nil h).elim) (hk g)
      have hpr := drop_all (fun y => y.1 ∉ txs.take i) txs[i] hg hw
      have hdl : (dropL txs[i] g w).1.length + (dropL txs[i] g w).2.2.1.length = (w.filter (keepL txs[i])).length := by
        have := hl2.1
        simp only [List.length_nil, Nat.zero_add] at this
        exact this
      have hln' := hv'.ln
      have ew : IntKind.wrap .i64 ((IntKind.wrap .i64 ((w.length : Int) - (((w.filter (hadL txs[i])).length : Nat) : Int))) - ((dropL txs[i] g w).1.length : Int)) = (((dropL txs[i] g w).2.2.1.length : Nat) : Int) := by
        have e1 : IntKind.wrap .i64 ((w.length : Int) - (((w.filter (hadL txs[i])).length : Nat) : Int)) = (w.length : Int) - (((w.filter (hadL txs[i])).length : Nat) : Int) := wrap_i64_id (by omega) (by omega)
        rw [e1, wrap_i64_id (by omega) (by omega)]; omega
      rw [nth_lt hil, bind_some', drop_eq _ g w (by omega) (by omega), bind_some', bind_some', granted_eq _ _ _ (by omega) hv'.fg, bind_some', had_none hne.1, waiting_eq _ _ (by omega) hv'.fw, bind_some', ew, wrap_succ hil (by omega)]
      simp only [List.length_nil, Int.natCast_zero, decide_true, Bool.not_true, cond_false]
      refine ends_l1 R txs ht m hm k0 k1 n (i + 1) _ _ (by omega) (by omega) hv' ?_ ?_
      · intro y hy hmem
        rw [List.take_succ_eq_append_getElem hil] at hmem
        rcases List.mem_append.1 hmem with hmem | hmem
        · exact hpr.1 y hy hmem
        · exact hne.1 y hy (List.mem_singleton.1 hmem)
      · intro y hy hmem
        rw [List.take_succ_eq_append_getElem hil] at hmem
        rcases List.mem_append.1 hmem with hmem | hmem
        · exact hpr.2 y hy hmem
        · exact hne.2 y hy (List.mem_singleton.1 hmem)
    · have e : i = txs.length := by omega
      subst e
      rw [List.take_length] at hg hw
      have eg : g = [] := by
        cases g with
        | nil => rfl
        | cons y r => exact absurd (hv.tg y List.mem_cons_self) (hg y List.mem_cons_self)
      have ew : w = [] := by
        cases w with
        | nil => rfl
        | cons y r => exact absurd (hv.tw y List.mem_cons_self) (hw y List.mem_cons_self)
      subst eg; subst ew
      rw [if_f (by omega)]; rfl

theorem ends_l0 (R : Type) (s : List ActT) (txs : List Int) (hs : ∀ a, a ∈ s → Fine a.2.1) (hsl : s.length ≤ 9223372036854775807) (hm : ∀ j (h : j < s.length), j < 60 → s[j].2.1.1 ∈ txs) (k0 : List Int → List LkT → List LkT → Option R) (r : Option R) (hk : ∀ g w, Inv txs 60 g w → k0 txs g w = r) :
    ∀ (n i : Nat) (g w : List LkT), 60 - i < n → i ≤ 60 → Inv txs i g w → law09_LockEnds_l0 big R k0 n s txs (i : Int) g w = r
  | 0, i, g, w, h, _, _ => by omega
  | n + 1, i, g, w, h, hi, hv => by
    have step : law09_LockEnds_l0 big R k0 (n + 1) s txs (i : Int) g w = law09_LockEnds_l0B big R (law09_LockEnds_l0 big R k0 n) k0 s txs (i : Int) g w := rfl
    have hln := hv.ln
    have hv60 : Inv txs 60 g w := ⟨hv.tb, hv.fg, hv.fw, by omega, hv.tg, hv.tw⟩
    rw [step]
    unfold law09_LockEnds_l0B
    by_cases hil : i < s.length
    · rw [if_t (by omega)]
      by_cases h60 : i < 60
      · rw [if_t (by omega)]
        obtain ⟨p, hp⟩ := short_some big s[i].2.1
        have IH := ends_l0 R s txs hs hsl hm k0 r hk n (i + 1)
        rw [nth_lt hil, bind_some', hp, bind_some', wrap_succ hil hsl]
        cases p with
        | false => exact IH g w (by omega) (by omega) hv.up
        | true =>
          rw [cond_true, bind_some']
          cases decide (s[i].1 = 1) with
          | false => exact IH g w (by omega) (by omega) hv.up
          | true =>
            have hx := hs _ (List.getElem_mem hil)
            rw [cond_true, bind_some', ask_eq g w s[i].2.1 hx (by omega) (by omega), bind_some']
            exact IH _ _ (by omega) (by omega) (hv.ask hx (hm i hil h60))
      · rw [if_f (by omega)]; exact hk g w hv60
    · rw [if_f (by omega)]; exact hk g w hv60

theorem LockEnds_all (s : List ActT) (hs : ∀ a, a ∈ s → Fine a.2.1) (hsl : s.length ≤ 9223372036854775807) : law09_LockEnds big s = some (true, ()) := by
  unfold law09_LockEnds law09_LockEnds_cps
  obtain ⟨txs, h1, h2, h3⟩ := tx_eq s hsl
  rw [show lock_New big = some ([], ([], ())) from rfl, bind_some', h1, bind_some', alive09]
  refine ends_l0 _ s txs hs hsl h3 _ (some (true, ())) ?_ big 0 [] [] (big_gt _ (by omega)) (by omega) ⟨Table.nil, fun _ h => (List.not_mem_nil h).elim, fun _ h => (List.not_mem_nil h).elim, by simp, fun _ h => (List.not_mem_nil h).elim, fun _ h => (List.not_mem_nil h).elim⟩
  intro g w hv
  have hln := hv.ln
  rw [waiting_eq g w (by omega) hv.fw, bind_some']
  refine (ends_l1 _ txs h2 60 (by omega) _ _ big 0 g w (big_gt _ (by omega)) (by omega) hv (by simp) (by simp)).trans ?_
  refine (ends_l3 _ txs h2 0 [] _ _ big 0 (big_gt _ (by omega))).trans ?_
  rfl

theorem LockEnds_pure : LockEnds_Pure := fun x hx => by
  have h3 := hx.1.1
  simp only [Ty.bytes, IntKind.bits] at h3
  exact LockEnds_all x.1 (script_fine hx.1) (by omega)

end Go.Proofs.Ytkeejnlicagjiab.E
