/-
  The statement LockCovers of the program is proved: for every input that the row speaks of, the law answers true.
  Conditions: those that the statement's row prints, and no other. This text: plain laws of the pure functions.
-/
import Derived.Test.YtkeejnlicagjiabLockCoversP3
set_option linter.unusedVariables false
set_option linter.unusedSimpArgs false
/-! LockCovers. -/
namespace Go.Proofs.Ytkeejnlicagjiab.E
open Go.Ev

/-- Whoever asks for a lock within one that it has is granted it, for nothing. -/
theorem ask_within {g w : List LkT} {x g0 : LkT} (hr : rightL x = true) (hw : waitsL w x.1 = false) (hm : g0 ∈ g) (hc : coversL g0 x = true) : askL g w x = (true, (0, (g, (w, ())))) := by
  unfold askL
  rw [hr, hw, show coveredL g x = true from List.any_eq_true.2 ⟨g0, hm, hc⟩]; rfl

theorem covers_self (x : LkT) : coversL x x = true := by
  unfold coversL
  rw [less_irr, less_irr]
  cases decide (x.2.2.2.1 = []) <;> simp

theorem ask_granted {g w : List LkT} {x : LkT} (h : (askL g w x).1 = true) : rightL x = true ∧ waitsL w x.1 = false ∧ (askL g w x).2.2.2.1 = w ∧ ∃ g0, g0 ∈ (askL g w x).2.2.1 ∧ coversL g0 x = true := by
  revert h
  unfold askL
  cases rightL x with
  | false => intro h; cases h
  | true =>
    cases waitsL w x.1 with
    | true => intro h; cases h
    | false =>
      cases hc : coveredL g x with
      | true =>
        intro _
        obtain ⟨g0, h1, h2⟩ := List.any_eq_true.1 hc
        exact ⟨rfl, rfl, rfl, g0, h1, h2⟩
      | false =>
        cases decide (1024 ≤ g.length + w.length) with
        | true => intro h; cases h
        | false =>
          cases (clashesL g x || clashesL w x) with
          | true => intro h; cases h
          | false => intro _; exact ⟨rfl, rfl, rfl, x, by simp, covers_self x⟩

theorem within_from {g0 x : LkT} {f : List UInt8} {m : Int} (hr : rightL x = true) (hc : coversL g0 x = true) (h1 : Op.bytesLess f x.2.2.1 = false) (h2 : x.2.2.2.1 = [] ∨ Op.bytesLess f x.2.2.2.1 = true) (hm : m = x.2.2.2.2.1 ∨ m = 1) :
    rightL (x.1, (x.2.1, (f, (x.2.2.2.1, (m, ()))))) = true ∧ coversL g0 (x.1, (x.2.1, (f, (x.2.2.2.1, (m, ()))))) = true := by
  unfold rightL coversL ahead at *
  simp only [Bool.and_eq_true, Bool.or_eq_true, decide_eq_true_eq, Bool.not_eq_true'] at *
  obtain ⟨hr1, hr2⟩ := hr
  obtain ⟨c1, c2, c3, c4, c5⟩ := hc
  refine ⟨⟨?_, h2⟩, c1, c2, ?_, le_trans' c4 h1, c5⟩
  · rcases hm with hm | hm
    · rw [hm]; exact hr1
    · exact .inl hm
  · rcases hm with hm | hm
    · rw [hm]; exact c3
    · rcases c3 with c3 | c3
      · rcases hr1 with hr1 | hr1
        · left; rw [c3, hr1, hm]
        · right; rw [c3, hr1]
      · exact .inr c3

theorem covers_j1 (R : Type) (x : LkT) (hx : Fine x) (f : List UInt8) (hf : f.length ≤ 140737488355328) (g w : List LkT) (k0 : Bool → Option R) (hl : g.length + w.length ≤ 1000) (hg : FineL g) (hw : FineL w)
    (hr : rightL x = true) (hwt : waitsL w x.1 = false) {g0 : LkT} (hm : g0 ∈ g) (hc : coversL g0 x = true) (h1 : Op.bytesLess f x.2.2.1 = false) (h2 : x.2.2.2.1 = [] ∨ Op.bytesLess f x.2.2.2.1 = true) :
    law09_LockCovers_j1 big R x.1 x.2.1 x.2.2.1 x.2.2.2.1 x.2.2.2.2.1 g w k0 f = k0 true := by
  unfold law09_LockCovers_j1
  obtain ⟨ry, cy⟩ := within_from hr hc h1 h2 (.inl rfl)
  obtain ⟨rz, cz⟩ := within_from (m := 1) hr hc h1 h2 (.inr rfl)
  have ay := ask_eq g w (x.1, (x.2.1, (f, (x.2.2.2.1, (x.2.2.2.2.1, ()))))) ⟨hf, hx.2⟩ (by omega) (by omega)
  have az := ask_eq g w (x.1, (x.2.1, (f, (x.2.2.2.1, (1, ()))))) ⟨hf, hx.2⟩ (by omega) (by omega)
  rw [ask_within ry hwt hm cy] at ay
  rw [ask_within rz hwt hm cz] at az
  simp only at ay az
  rw [granted_eq x.1 g w (by omega) hg, bind_some', waiting_eq g w (by omega) hw, bind_some', ay, bind_some']
  simp only
  rw [az, bind_some', alive09, bind_some']
  simp only [cond_true]
  rw [granted_eq x.1 g w (by omega) hg, bind_some', waiting_eq g w (by omega) hw]
  simp

theorem covers_loop (R : Type) (x : LkT) (s : List ActT) (hs : ∀ a, a ∈ s → Fine a.2.1) (hl : s.length ≤ 9223372036854775807) (f : List UInt8) (k0 : List UInt8 → List LkT → List LkT → Option R) (r : Option R) (hk : ∀ g w, FineL g → FineL w → g.length + w.length ≤ 60 → k0 f g w = r) :
    ∀ (n i : Nat) (g w : List LkT), 60 - i < n → i ≤ 60 → FineL g → FineL w → g.length + w.length ≤ i → law09_LockCovers_l0 big R x.1 x.2.1 x.2.2.1 x.2.2.2.1 x.2.2.2.2.1 k0 n s f (i : Int) g w = r
  | 0, i, g, w, h, _, _, _, _ => by omega
  | n + 1, i, g, w, h, hi, hg, hw, hgw => by
    have step : law09_LockCovers_l0 big R x.1 x.2.1 x.2.2.1 x.2.2.2.1 x.2.2.2.2.1 k0 (n + 1) s f (i : Int) g w = law09_LockCovers_l0B big R x.1 x.2.1 x.2.2.1 x.2.2.2.1 x.2.2.2.2.1 (law09_LockCovers_l0 big R x.1 x.2.1 x.2.2.1 x.2.2.2.1 x.2.2.2.2.1 k0 n) k0 s f (i : Int) g w := rfl
    rw [step]
    unfold law09_LockCovers_l0B
    by_cases hil : i < s.length
    · rw [if_t (by omega)]
      by_cases h60 : i < 60
      · rw [if_t (by omega)]
        obtain ⟨p, hp⟩ := short_some big s[i].2.1
        rw [nth_lt hil, bind_some', hp, bind_some', wrap_succ hil hl]
        have IH := covers_loop R x s hs hl f k0 r hk n (i + 1)
        cases p with
        | false => exact IH g w (by omega) (by omega) hg hw (by omega)
        | true =>
          simp only [cond_true]
          rw [bind_some']
          cases decide (s[i].1 = 1) with
          | false => exact IH g w (by omega) (by omega) hg hw (by omega)
          | true =>
            have hx := hs _ (List.getElem_mem hil)
            have hq := askL_fine hx hg hw
            have hn := askL_len g w s[i].2.1
            simp only [cond_true]
            rw [bind_some', ask_eq g w s[i].2.1 hx (by omega) (by omega), bind_some']
            exact IH _ _ (by omega) (by omega) hq.1 hq.2 (by omega)
      · rw [if_f (by omega)]; exact hk g w hg hw (by omega)
    · rw [if_f (by omega)]; exact hk g w hg hw (by omega)

theorem LockCovers_all (s : List ActT) (x : LkT) (f : List UInt8) (hs : ∀ a, a ∈ s → Fine a.2.1) (hl : s.length ≤ 9223372036854775807) (hx : Fine x) (hf : f.length ≤ 140737488355328) :
    law09_LockCovers big s x.1 x.2.1 x.2.2.1 x.2.2.2.1 x.2.2.2.2.1 f = some (true, ()) := by
  unfold law09_LockCovers law09_LockCovers_cps
  rw [show lock_New big = some ([], ([], ())) from rfl, bind_some']
  refine covers_loop _ x s hs hl f _ (some (true, ())) ?_ big 0 [] [] (big_gt _ (by omega)) (by omega) (fun _ h => by cases h) (fun _ h => by cases h) (by simp)
  intro g w hg hw hgw
  obtain ⟨p, hp⟩ := short_some big x
  have hq := askL_fine hx hg hw
  have hn := askL_len g w x
  rw [hp, bind_some', ask_eq g w x hx (by omega) (by omega), bind_some']
  simp only [alive09, bind_some']
  cases p with
  | false => rfl
  | true =>
    simp only [Bool.not_true, cond_false]
    cases decide (40 < (f.length : Int)) with
    | true => rfl
    | false =>
      simp only [cond_false]
      cases ha : (askL g w x).1 with
      | false => rfl
      | true =>
        obtain ⟨hr, hwt, hw', g0, hm, hc⟩ := ask_granted ha
        simp only [Bool.not_true, cond_false]
        cases decide ((askL g w x).2.1 = 0) with
        | false => rfl
        | true =>
          simp only [Bool.not_true, cond_false]
          cases h1 : Op.bytesLess f x.2.2.1 with
          | true => rfl
          | false =>
            simp only [cond_false]
            rw [len_pos]
            cases ht : decide (x.2.2.2.1 = []) with
            | true =>
              simp only [Bool.not_true, cond_false]
              exact covers_j1 _ x hx f hf _ _ _ (by omega) hq.1 hq.2 hr (by rw [hw']; exact hwt) hm hc h1 (.inl (of_decide_eq_true ht))
            | false =>
              simp only [Bool.not_false, cond_true]
              cases h2 : Op.bytesLess f x.2.2.2.1 with
              | false => rfl
              | true =>
                simp only [Bool.not_true, cond_false]
                exact covers_j1 _ x hx f hf _ _ _ (by omega) hq.1 hq.2 hr (by rw [hw']; exact hwt) hm hc h1 (.inr h2)

theorem LockCovers_pure : LockCovers_Pure := fun x hx => by
  have h1 := hx.1
  have h2 := hx.2.2.1.1
  have h3 := h1.1
  simp only [Ty.bytes, Nat.mul_one] at h2 h3
  refine LockCovers_all x.1 x.2.1 x.2.2.1 (script_fine h1) ?_ (fine_of_wf hx.2.1) (by omega)
  simp only [IntKind.bits] at h3
  omega

end Go.Proofs.Ytkeejnlicagjiab.E
