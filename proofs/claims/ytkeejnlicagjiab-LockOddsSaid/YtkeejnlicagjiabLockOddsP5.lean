/-
  The statement LockOdds of the program is proved: for every input that the row speaks of, the law answers true.
  Conditions: those that the statement's row prints, and no other. This text: plain laws of the pure functions.
-/
import Derived.Test.YtkeejnlicagjiabLockOddsP4
set_option linter.unusedVariables false
set_option linter.unusedSimpArgs false
/-! LockOdds. -/
namespace Go.Proofs.Ytkeejnlicagjiab.E
open Go.Ev

theorem odds_l5 (R : Type) (s : List ActT) (txs : List Int) (i : Int) (g w : List LkT) (hg : g.length ≤ 1000) (hf : FineL g) (ht : txs.length ≤ 60) (k0 : List ActT → List Int → Int → List LkT → Option R) :
    ∀ (n j : Nat) (o : List LkT), txs.length - j < n → j ≤ txs.length → o.length ≤ 1000 * j → law09_LockOdds_l5 big R g w k0 n s txs i o (j : Int) = k0 s txs i (o ++ (txs.drop j).flatMap fun t => g.filter (hadL t))
  | 0, j, o, h, _, _ => by omega
  | n + 1, j, o, h, hj, ho => by
    have step : law09_LockOdds_l5 big R g w k0 (n + 1) s txs i o (j : Int) = law09_LockOdds_l5B big R g w (law09_LockOdds_l5 big R g w k0 n) k0 s txs i o (j : Int) := rfl
    rw [step]
    unfold law09_LockOdds_l5B
    by_cases hjl : j < txs.length
    · have hfl := List.length_filter_le (hadL txs[j]) g
      rw [if_t (by omega), nth_lt hjl, bind_some', granted_eq _ g w (by omega) hf, bind_some', cond_t (room_of (by dsimp only; omega)), wrap_succ hjl (by omega),
        odds_l5 R s txs i g w hg hf ht k0 n (j + 1) _ (by omega) (by omega) (by rw [List.length_append]; dsimp only; omega), List.drop_eq_getElem_cons hjl, List.flatMap_cons, List.append_assoc]
    · rw [if_f (by omega), List.drop_eq_nil_of_le (by omega), List.flatMap_nil, List.append_nil]

theorem odds_l7 (R : Type) (s : List ActT) (txs : List Int) (i : Int) (g w G W : List LkT) (hG : NoClash G) (k0 : List ActT → List Int → Int → List LkT → List LkT → Int → Option R) (k1 : List ActT → Bool → List Int → Int → List LkT → List LkT → Int → Option R)
    (k : Nat) (hk : k < G.length) (hl : G.length ≤ 1000000) :
    ∀ (n j : Nat), k - j < n → law09_LockOdds_l7 big R g w k0 k1 n s txs i G W (k : Int) (j : Int) = k0 s txs i G W (k : Int)
  | 0, j, h => by omega
  | n + 1, j, h => by
    have step : law09_LockOdds_l7 big R g w k0 k1 (n + 1) s txs i G W (k : Int) (j : Int) = law09_LockOdds_l7B big R g w (law09_LockOdds_l7 big R g w k0 k1 n) k0 k1 s txs i G W (k : Int) (j : Int) := rfl
    rw [step]
    unfold law09_LockOdds_l7B
    by_cases hj : j < k
    · have hjl : j < G.length := by omega
      rw [if_t (by omega), nth_lt hk, bind_some', nth_lt hjl, bind_some', clash_eq big G[k] G[j], bind_some', hG _ _ (List.getElem_mem hk) (List.getElem_mem hjl), wrap_succ hjl (by omega)]
      exact odds_l7 R s txs i g w G W hG k0 k1 k hk hl n (j + 1) (by omega)
    · rw [if_f (by omega)]

theorem odds_l6 (R : Type) (s : List ActT) (txs : List Int) (i : Int) (g w G W : List LkT) (hG : NoClash G) (k0 : List ActT → List Int → Int → List LkT → List LkT → Option R) (k1 : List ActT → Bool → List Int → Int → List LkT → List LkT → Option R)
    (hl : G.length ≤ 1000000) :
    ∀ (n k : Nat), G.length - k < n → law09_LockOdds_l6 big R g w k0 k1 n s txs i G W (k : Int) = k0 s txs i G W
  | 0, k, h => by omega
  | n + 1, k, h => by
    have step : law09_LockOdds_l6 big R g w k0 k1 (n + 1) s txs i G W (k : Int) = law09_LockOdds_l6B big R g w (law09_LockOdds_l6 big R g w k0 k1 n) k0 k1 s txs i G W (k : Int) := rfl
    rw [step]
    unfold law09_LockOdds_l6B
    by_cases hk : k < G.length
    · rw [if_t (by omega)]
      refine (odds_l7 R s txs i g w G W hG _ _ k hk hl big 0 (big_gt _ (by omega))).trans ?_
      rw [wrap_succ hk (by omega)]
      exact odds_l6 R s txs i g w G W hG k0 k1 hl n (k + 1) (by omega)
    · rw [if_f (by omega)]

theorem odds_l9 (R : Type) (s : List ActT) (txs : List Int) (i : Int) (g w G W : List LkT) (k0 : List ActT → List Int → Int → List LkT → List LkT → Int → Bool → Option R)
    (k : Nat) (hk : k < W.length) (hl : G.length ≤ 1000000) :
    ∀ (n j : Nat) (b : Bool), G.length - j < n → law09_LockOdds_l9 big R g w k0 n s txs i G W (k : Int) b (j : Int) = k0 s txs i G W (k : Int) (b || clashesL (G.drop j) W[k])
  | 0, j, b, h => by omega
  | n + 1, j, b, h => by
    have step : law09_LockOdds_l9 big R g w k0 (n + 1) s txs i G W (k : Int) b (j : Int) = law09_LockOdds_l9B big R g w (law09_LockOdds_l9 big R g w k0 n) k0 s txs i G W (k : Int) b (j : Int) := rfl
    rw [step]
    unfold law09_LockOdds_l9B
    by_cases hj : j < G.length
    · rw [if_t (by omega), wrap_succ hj (by omega), List.drop_eq_getElem_cons hj]
      unfold clashesL
      rw [List.any_cons]
      cases b with
      | true => rw [cond_true, odds_l9 R s txs i g w G W k0 k hk hl n (j + 1) true (by omega)]; rfl
      | false =>
        rw [cond_false, nth_lt hk, bind_some', nth_lt hj, bind_some', clash_eq big W[k] G[j], bind_some', odds_l9 R s txs i g w G W k0 k hk hl n (j + 1) _ (by omega), Bool.false_or]
        rfl
    · rw [if_f (by omega), List.drop_eq_nil_of_le (by omega)]
      show _ = k0 s txs i G W (k : Int) (b || false)
      rw [Bool.or_false]

theorem odds_l10 (R : Type) (s : List ActT) (txs : List Int) (i : Int) (g w G W : List LkT) (hW : Apart W) (k0 : List ActT → List Int → Int → List LkT → List LkT → Int → Bool → Option R) (k1 : List ActT → Bool → List Int → Int → List LkT → List LkT → Int → Bool → Option R)
    (k : Nat) (hk : k < W.length) (hl : W.length ≤ 1000000) :
    ∀ (n j : Nat) (b : Bool), k - j < n → law09_LockOdds_l10 big R g w k0 k1 n s txs i G W (k : Int) b (j : Int) = k0 s txs i G W (k : Int) (b || clashesL ((W.take k).drop j) W[k])
  | 0, j, b, h => by omega
  | n + 1, j, b, h => by
    have step : law09_LockOdds_l10 big R g w k0 k1 (n + 1) s txs i G W (k : Int) b (j : Int) = law09_LockOdds_l10B big R g w (law09_LockOdds_l10 big R g w k0 k1 n) k0 k1 s txs i G W (k : Int) b (j : Int) := rfl
    rw [step]
    unfold law09_LockOdds_l10B
    by_cases hj : j < k
    · have hjl : j < W.length := by omega
      have hjt : j < (W.take k).length := by simp; omega
      have hne : decide (W[j].1 = W[k].1) = false := decide_eq_false (List.pairwise_iff_getElem.1 hW j k hjl hk hj)
      rw [if_t (by omega), wrap_succ hjl (by omega), List.drop_eq_getElem_cons hjt]
      unfold clashesL
      rw [List.any_cons, List.getElem_take]
      cases b with
      | true => rw [cond_true, nth_lt hjl, bind_some', nth_lt hk, bind_some', hne, cond_false, odds_l10 R s txs i g w G W hW k0 k1 k hk hl n (j + 1) true (by omega)]; rfl
      | false =>
        rw [cond_false, nth_lt hk, bind_some', nth_lt hjl, bind_some', clash_eq big W[k] W[j], bind_some', bind_some', bind_some', hne, cond_false, odds_l10 R s txs i g w G W hW k0 k1 k hk hl n (j + 1) _ (by omega), Bool.false_or]
        rfl
    · rw [if_f (by omega), List.drop_eq_nil_of_le (by simp; omega)]
      show _ = k0 s txs i G W (k : Int) (b || false)
      rw [Bool.or_false]

theorem odds_l8 (R : Type) (s : List ActT) (txs : List Int) (i : Int) (g w G W : List LkT) (hW : Apart W) (hGW : WaitOk G W) (k0 : List ActT → List Int → Int → Option R) (k1 : List ActT → Bool → List Int → Int → Option R)
    (hl : G.length ≤ 1000000) (hl2 : W.length ≤ 1000000) :
    ∀ (n k : Nat), W.length - k < n → law09_LockOdds_l8 big R g w k0 k1 n s txs i G W (k : Int) = k0 s txs i
  | 0, k, h => by omega
  | n + 1, k, h => by
    have step : law09_LockOdds_l8 big R g w k0 k1 (n + 1) s txs i G W (k : Int) = law09_LockOdds_l8B big R g w (law09_LockOdds_l8 big R g w k0 k1 n) k0 k1 s txs i G W (k : Int) := rfl
    rw [step]
    unfold law09_LockOdds_l8B
    by_cases hk : k < W.length
    · rw [if_t (by omega)]
      refine (odds_l9 R s txs i g w G W _ k hk hl big 0 false (big_gt _ (by omega))).trans ?_
      refine (odds_l10 R s txs i g w G W hW _ _ k hk hl2 big 0 _ (big_gt _ (by omega))).trans ?_
      rw [List.drop_zero, List.drop_zero, Bool.false_or, hGW k hk, wrap_succ hk (by omega)]
      simp only [Bool.not_true, cond_false]
      exact odds_l8 R s txs i g w G W hW hGW k0 k1 hl hl2 n (k + 1) (by omega)
    · rw [if_f (by omega)]

/-- What stays true of the table while a script is gone through. -/
structure Inv (txs : List Int) (i : Nat) (g w : List LkT) : Prop where
  tb : Table g w
  fg : FineL g
  fw : FineL w
  ln : g.length + w.length ≤ i
  tg : ∀ y, y ∈ g → y.1 ∈ txs
  tw : ∀ y, y ∈ w → y.1 ∈ txs

theorem Inv.up {txs : List Int} {i : Nat} {g w : List LkT} (h : Inv txs i g w) : Inv txs (i + 1) g w := ⟨h.tb, h.fg, h.fw, by have := h.ln; omega, h.tg, h.tw⟩
theorem Inv.ask {txs : List Int} {i : Nat} {g w : List LkT} (h : Inv txs i g w) {x : LkT} (hx : Fine x) (hm : x.1 ∈ txs) : Inv txs (i + 1) (askL g w x).2.2.1 (askL g w x).2.2.2.1 := by
  have h1 := ask_all (fun y => y.1 ∈ txs) hm h.tg h.tw
  have h2 := askL_fine hx h.fg h.fw
  exact ⟨h.tb.ask x, h2.1, h2.2, by have := h.ln; have := askL_len g w x; omega, h1.1, h1.2⟩
theorem Inv.cancel {txs : List Int} {i : Nat} {g w : List LkT} (h : Inv txs i g w) (tx : Int) : Inv txs i (cancelL tx g w).2.1 (cancelL tx g w).2.2.1 := by
  have h1 := cancel_all (fun y => y.1 ∈ txs) tx h.tg h.tw
  have h2 := cancel_all Fine tx h.fg h.fw
  exact ⟨h.tb.cancel tx, h2.1, h2.2, by have := h.ln; have := cancel_len g w tx; omega, h1.1, h1.2⟩
theorem Inv.drop {txs : List Int} {i : Nat} {g w : List LkT} (h : Inv txs i g w) (tx : Int) : Inv txs i (dropL tx g w).2.1 (dropL tx g w).2.2.1 := by
  have h1 := drop_all (fun y => y.1 ∈ txs) tx h.tg h.tw
  have h2 := drop_all Fine tx h.fg h.fw
  exact ⟨h.tb.drop tx, h2.1, h2.2, by have := h.ln; have := drop_len g w tx; omega, h1.1, h1.2⟩

theorem flat_len (g : List LkT) : ∀ txs : List Int, (txs.flatMap fun t => g.filter (hadL t)).length ≤ g.length * txs.length
  | [] => by simp
  | t :: r => by
    have := flat_len g r
    have h2 := List.length_filter_le (hadL t) g
    rw [List.flatMap_cons, List.length_append, List.length_cons, Nat.mul_succ]
    omega

theorem odds_j4 (R : Type) (s : List ActT) (txs : List Int) (i : Int) (ht : txs.length ≤ 60) {m : Nat} (hm : m ≤ 61) {g w : List LkT} (h : Inv txs m g w) (k0 : List ActT → List Int → Int → Option R) (k1 : List ActT → Bool → List Int → Int → Option R) :
    law09_LockOdds_j4 big R g w k0 k1 s txs i = k0 s txs i := by
  unfold law09_LockOdds_j4
  have hln := h.ln
  have hmem : ∀ y, y ∈ (txs.flatMap fun t => g.filter (hadL t)) → y ∈ g := fun y hy => by
    obtain ⟨t, _, h2⟩ := List.mem_flatMap.1 hy
    exact (List.mem_filter.1 h2).1
  have hmem' : ∀ y, y ∈ g → y ∈ (txs.flatMap fun t => g.filter (hadL t)) := fun y hy => List.mem_flatMap.2 ⟨y.1, h.tg y hy, List.mem_filter.2 ⟨hy, by simp [hadL]⟩⟩
  have hlen : (txs.flatMap fun t => g.filter (hadL t)).length ≤ 1000000 := by
    have h1 := flat_len g txs
    have h2 : g.length * txs.length ≤ 61 * 60 := Nat.mul_le_mul (by omega) ht
    omega
  refine (odds_l5 R s txs i g w (by omega) h.fg ht _ big 0 [] (big_gt _ (by omega)) (by omega) (by simp)).trans ?_
  rw [List.drop_zero, List.nil_append, waiting_eq g w (by omega) h.fw, bind_some']
  refine (odds_l6 R s txs i g w _ w (fun a b ha hb => h.tb.nc a b (hmem a ha) (hmem b hb)) _ _ hlen big 0 (big_gt _ (by omega))).trans ?_
  exact odds_l8 R s txs i g w _ w h.tb.ap (h.tb.wo.mono hmem') _ _ hlen (by omega) big 0 (big_gt _ (by omega))

theorem odds_j3 (R : Type) (s : List ActT) (txs : List Int) (i : Int) (ht : txs.length ≤ 60) {m : Nat} (hm : m ≤ 61) {g w : List LkT} (h : Inv txs m g w) (c : Int) (x : LkT) (b : Bool) (k0 : List ActT → List Int → Int → List LkT → List LkT → Option R) (k1 : List ActT → Bool → List Int → Int → List LkT → List LkT → Option R) :
    ∃ g' w', Inv txs m g' w' ∧ law09_LockOdds_j3 big R c x.1 x.2.1 x.2.2.1 x.2.2.2.1 x.2.2.2.2.1 g w k0 k1 s txs i b = k0 s txs i g' w' := by
  unfold law09_LockOdds_j3
  have hln := h.ln
  cases b with
  | false => exact ⟨g, w, h, odds_j4 R s txs i ht hm h _ _⟩
  | true =>
    cases hc : decide (c = 3) with
    | false => exact ⟨g, w, h, odds_j4 R s txs i ht hm h _ _⟩
    | true =>
      refine ⟨_, _, h.cancel x.1, ?_⟩
      rw [cond_true, cond_true, cancel_eq x.1 g w (by omega) (by omega), bind_some']
      exact odds_j4 R s txs i ht hm (h.cancel x.1) _ _

theorem odds_j2 (R : Type) (s : List ActT) (txs : List Int) (i : Int) (ht : txs.length ≤ 60) {m : Nat} (hm : m ≤ 61) {g w : List LkT} (h : Inv txs m g w) (c : Int) (x : LkT) (b : Bool) (k0 : List ActT → List Int → Int → List LkT → List LkT → Option R) (k1 : List ActT → Bool → List Int → Int → List LkT → List LkT → Option R) :
    ∃ g' w', Inv txs m g' w' ∧ law09_LockOdds_j2 big R c x.1 x.2.1 x.2.2.1 x.2.2.2.1 x.2.2.2.2.1 g w k0 k1 s txs i b = k0 s txs i g' w' := by
  unfold law09_LockOdds_j2
  have hln := h.ln
  cases b with
  | false => exact odds_j3 R s txs i ht hm h c x false _ _
  | true =>
    cases hc : decide (c = 2) with
    | false => exact odds_j3 R s txs i ht hm h c x true _ _
    | true =>
      rw [cond_true, cond_true, drop_eq x.1 g w (by omega) (by omega), bind_some']
      exact odds_j3 R s txs i ht hm (h.drop x.1) c x true _ _

theorem odds_j1 (R : Type) (s : List ActT) (txs : List Int) (i : Nat) (hil : i < s.length) (hsl : s.length ≤ 9223372036854775807) (ht : txs.length ≤ 60) (hm : i < 60) {g w : List LkT} (h : Inv txs i g w) (hx : Fine s[i].2.1) (hmx : s[i].2.1.1 ∈ txs) (k0 : List ActT → List Int → Int → List LkT → List LkT → Option R) (k1 : List ActT → Bool → List Int → Int → List LkT → List LkT → Option R) :
    ∃ g' w', Inv txs (i + 1) g' w' ∧ law09_LockOdds_j1 big R g w k0 k1 s txs (i : Int) = k0 s txs ((i + 1 : Nat) : Int) g' w' := by
  unfold law09_LockOdds_j1
  have hln := h.ln
  obtain ⟨p, hp⟩ := short_some big s[i].2.1
  rw [nth_lt hil, bind_some', hp, bind_some', ← wrap_succ hil hsl]
  cases p with
  | false => exact odds_j2 R s txs i ht (show i + 1 ≤ 61 by omega) h.up s[i].1 s[i].2.1 false (fun a b c d e => k0 a b (IntKind.wrap .i64 (c + 1)) d e) k1
  | true =>
    cases hc : decide (s[i].1 = 1) with
    | false => exact odds_j2 R s txs i ht (show i + 1 ≤ 61 by omega) h.up s[i].1 s[i].2.1 true (fun a b c d e => k0 a b (IntKind.wrap .i64 (c + 1)) d e) k1
    | true =>
      rw [cond_true, cond_true, ask_eq g w s[i].2.1 hx (by omega) (by omega), bind_some']
      exact odds_j2 R s txs i ht (show i + 1 ≤ 61 by omega) (h.ask hx hmx) s[i].1 s[i].2.1 true (fun a b c d e => k0 a b (IntKind.wrap .i64 (c + 1)) d e) k1

theorem odds_l0 (R : Type) (s : List ActT) (txs : List Int) (hs : ∀ a, a ∈ s → Fine a.2.1) (hsl : s.length ≤ 9223372036854775807) (ht : txs.length ≤ 60) (hm : ∀ j (h : j < s.length), j < 60 → s[j].2.1.1 ∈ txs) (k0 : Option R) (k1 : Bool → Option R) :
    ∀ (n i : Nat) (g w : List LkT), 60 - i < n → i ≤ 60 → Inv txs i g w → law09_LockOdds_l0 big R k0 k1 n s txs (i : Int) g w = k0
  | 0, i, g, w, h, _, _ => by omega
  | n + 1, i, g, w, h, hi, hv => by
    have step : law09_LockOdds_l0 big R k0 k1 (n + 1) s txs (i : Int) g w = law09_LockOdds_l0B big R (law09_LockOdds_l0 big R k0 k1 n) k0 k1 s txs (i : Int) g w := rfl
    rw [step]
    unfold law09_LockOdds_l0B
    by_cases hil : i < s.length
    · rw [if_t (by omega)]
      by_cases h60 : i < 60
      · rw [if_t (by omega)]
        obtain ⟨g', w', h1, h2⟩ := odds_j1 R s txs i hil hsl ht h60 hv (hs _ (List.getElem_mem hil)) (hm i hil h60) (fun a b c d e => law09_LockOdds_l0 big R k0 k1 n a b c d e) (fun (v16 : List ActT) (v17 : Bool) (v18 : (List Int)) (v19 : Int) (v20 : List LkT) (v21 : List LkT) => (k1 v17))
        exact h2.trans (odds_l0 R s txs hs hsl ht hm k0 k1 n (i + 1) g' w' (by omega) (by omega) h1)
      · rw [if_f (by omega)]
    · rw [if_f (by omega)]

theorem LockOdds_all (s : List ActT) (hs : ∀ a, a ∈ s → Fine a.2.1) (hsl : s.length ≤ 9223372036854775807) : law09_LockOdds big s = some (true, ()) := by
  unfold law09_LockOdds law09_LockOdds_cps
  obtain ⟨txs, h1, h2, h3⟩ := tx_eq s hsl
  rw [show lock_New big = some ([], ([], ())) from rfl, bind_some', h1, bind_some', alive09]
  exact odds_l0 _ s txs hs hsl h2 h3 _ _ big 0 [] [] (big_gt _ (by omega)) (by omega) ⟨Table.nil, fun _ h => (List.not_mem_nil h).elim, fun _ h => (List.not_mem_nil h).elim, by simp, fun _ h => (List.not_mem_nil h).elim, fun _ h => (List.not_mem_nil h).elim⟩

theorem LockOdds_pure : LockOdds_Pure := fun x hx => by
  have h3 := hx.1.1
  simp only [Ty.bytes, IntKind.bits] at h3
  exact LockOdds_all x.1 (script_fine hx.1) (by omega)

end Go.Proofs.Ytkeejnlicagjiab.E
