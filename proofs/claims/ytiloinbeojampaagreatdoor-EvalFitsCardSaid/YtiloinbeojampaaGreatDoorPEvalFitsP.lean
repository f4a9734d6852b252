/-
  Plain laws of the pure functions.
  Conditions: those that each statement prints, and no other.
-/
import Derived.Test.YtiloinbeojampaaGreatDoorGEVF
import Derived.Test.YtiloinbeojampaaGreatDoorEvA
import Derived.KernelRfl
set_option linter.unusedVariables false
set_option linter.unusedSimpArgs false
/-! Fits. -/
namespace Go.Proofs.YtiloinbeojampaaGreatDoor.E
open Go.Ev
set_option maxRecDepth 100000

theorem cnf {α : Type} (a b : α) : (bif !false then a else b) = a := rfl
theorem cnt {α : Type} (a b : α) : (bif !true then a else b) = b := rfl
theorem ct {α : Type} (a b : α) : (bif true then a else b) = a := rfl
theorem cf {α : Type} (a b : α) : (bif false then a else b) = b := rfl

theorem alive20 : law20_alive big = some (true, ()) := by rw [big_eq]; kernel_rfl

theorem right_some (N : Nat) (k n : Int) (s : List UInt8) : ∃ b, value_Right N k n s = some (b, ()) := by
  unfold value_Right value_Right_cps
  simp only [Bool.cond_decide]
  repeat' split
  all_goals exact ⟨_, rfl⟩

theorem fit_same (N : Nat) {k n : Int} {s : List UInt8} {to : Int} (h : k = to ∨ k = 0) : eval_Fit N k n s to = some (k, n, s, .nil, ()) := by
  unfold eval_Fit eval_Fit_cps eval_Fit_j0
  by_cases h1 : k = to
  · rw [if_t h1]; rfl
  · rw [if_f h1, dec_t (h.resolve_left h1)]; rfl

theorem fit_type (N : Nat) {k n : Int} {s : List UInt8} {to : Int} (h : ¬ (k = to ∨ k = 0)) (h2 : ¬ (k = 2 ∧ to = 3)) : eval_Fit N k n s to = some (0, 0, [], .fault 22 (-1) .nil, ()) := by
  unfold eval_Fit eval_Fit_cps eval_Fit_j0
  rw [if_f (fun e => h (.inl e)), dec_f (fun e => h (.inr e))]
  by_cases h3 : k = 2
  · rw [dec_t h3, dec_f (fun e => h2 ⟨h3, e⟩)]; rfl
  · rw [dec_f h3]; rfl

theorem fit_dec (N : Nat) {n : Int} {s : List UInt8} : eval_Fit N 2 n s 3 = if 922337203685477 < n ∨ n < -922337203685477 then some (0, 0, [], .fault 31 (-1) .nil, ()) else some (3, IntKind.wrap .i64 (n * 10000), [], .nil, ()) := by
  unfold eval_Fit eval_Fit_cps eval_Fit_j0
  rw [if_f (by decide), dec_f (by decide), cf, dec_t (show (2 : Int) = 2 from rfl), cnt, dec_t (show (3 : Int) = 3 from rfl), Bool.not_true]
  unfold eval_Fit_j1
  rw [cf]
  by_cases h1 : 922337203685477 < n
  · rw [if_t h1, if_pos (.inl h1)]; rfl
  · rw [if_f h1]
    by_cases h2 : n < -922337203685477
    · rw [if_t h2, if_pos (.inr h2)]; rfl
    · rw [if_f h2, if_neg (by omega)]

theorem code_fault (N : Nat) (c p : Int) : fault_Code N (.fault c p .nil) = some (c, ()) := rfl

theorem fits_j1 (N : Nat) {R : Type} (k0 : Err → Int → Int → List UInt8 → Int → Int → List UInt8 → Option R) (k1 : Bool → Err → Int → Int → List UInt8 → Int → Int → List UInt8 → Option R) (e : Err) (n : Int) (s : List UInt8) (a b : Int) (c : List UInt8) :
    law20_EvalFits_j1 N R k0 k1 3 e false 2 n s a b c = law20_EvalFits_j2 N R k0 k1 e true 2 n s a b c := by
  unfold law20_EvalFits_j1
  rw [cf, if_t rfl, dec_t rfl]

theorem EvalFits_all (k n : Int) (s : List UInt8) (to : Int) : law20_EvalFits big k n s to = some (true, ()) := by
  unfold law20_EvalFits law20_EvalFits_cps
  by_cases hl : 300 < (s.length : Int)
  · rw [if_t hl, alive20]; rfl
  rw [if_f hl]
  obtain ⟨b, hb⟩ := right_some big k n s
  rw [hb, bind_some']
  dsimp only
  cases b
  · rw [cnf, alive20]; rfl
  rw [cnt]
  unfold law20_EvalFits_j0
  by_cases h : k = to ∨ k = 0
  · rw [fit_same big h, bind_some']
    have j1 : ∀ (R : Type) (k0 : Err → Int → Int → List UInt8 → Int → Int → List UInt8 → Option R) (k1 : Bool → Err → Int → Int → List UInt8 → Int → Int → List UInt8 → Option R),
        law20_EvalFits_j1 big R k0 k1 to .nil true k n s k n s = k1 true .nil k n s k n s := by
      intro R k0 k1
      unfold law20_EvalFits_j1
      show Option.bind (law20_alive big) _ = _
      rw [alive20, bind_some']
      show k1 (decide (k = k) && (decide (n = n) && decide (s = s))) .nil k n s k n s = _
      simp
    by_cases h0 : k = 0
    · rw [if_t h0]; exact j1 _ _ _
    · rw [if_f h0, dec_t (h.resolve_right h0)]; exact j1 _ _ _
  · have h0 : ¬ k = 0 := fun e => h (.inr e)
    have ht : ¬ k = to := fun e => h (.inl e)
    by_cases h2 : k = 2 ∧ to = 3
    · obtain ⟨rfl, rfl⟩ := h2
      rw [fit_dec]
      by_cases hr : 922337203685477 < n ∨ n < -922337203685477
      · rw [if_pos hr, bind_some', if_f (by decide), dec_f (by decide)]
        rw [fits_j1]
        unfold law20_EvalFits_j2 law20_EvalFits_j3
        simp only [alive20, bind_some', cond_true]
        by_cases a : (-562949953421312) < n
        · rw [if_t a, dec_f (show ¬ n < 562949953421312 by omega)]; rfl
        · rw [if_f a]; rfl
      · rw [if_neg hr, bind_some', if_f (by decide), dec_f (by decide)]
        rw [fits_j1]
        unfold law20_EvalFits_j2 law20_EvalFits_j3
        simp only [alive20, bind_some', cond_true]
        by_cases a : (-562949953421312) < n
        · rw [if_t a]
          by_cases b : n < 562949953421312
          · rw [dec_t b]
            rfl
          · rw [dec_f b]; rfl
        · rw [if_f a]; rfl
    · rw [fit_type big h h2, bind_some', if_f h0, dec_f ht]
      have j2 : ∀ (R : Type) (k0 : Err → Int → Int → List UInt8 → Int → Int → List UInt8 → Option R) (k1 : Bool → Err → Int → Int → List UInt8 → Int → Int → List UInt8 → Option R),
          law20_EvalFits_j1 big R k0 k1 to (.fault 22 (-1) .nil) false k n s 0 0 [] = k0 (.fault 22 (-1) .nil) k n s 0 0 [] := by
        intro R k0 k1
        unfold law20_EvalFits_j1
        by_cases h3 : k = 2
        · show (bif decide (k = 2) then _ else _) = _
          rw [if_t h3, dec_f (fun e => h2 ⟨h3, e⟩)]; rfl
        · show (bif decide (k = 2) then _ else _) = _
          rw [if_f h3]; rfl
      rw [j2, alive20, bind_some']
      dsimp only
      rw [ct, code_fault]; rfl

theorem EvalFits_pure : EvalFits_Pure := fun x _ => EvalFits_all _ _ _ _

end Go.Proofs.YtiloinbeojampaaGreatDoor.E
