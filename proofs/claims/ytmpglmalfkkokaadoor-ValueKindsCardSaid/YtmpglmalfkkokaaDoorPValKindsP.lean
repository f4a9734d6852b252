/-
  Plain laws of the pure functions.
  Conditions: those that each statement prints, and no other.
-/
import Derived.Test.YtmpglmalfkkokaaDoorPValOrdP
set_option linter.unusedVariables false
set_option linter.unusedSimpArgs false
/-! Kinds stand apart. -/
namespace Go.Proofs.YtmpglmalfkkokaaDoor.E
open Go.Ev

theorem ValueKinds_all {k n k' n' : Int} {s s' : Bs} (hn : I64 n) (hn' : I64 n') : law02_ValueKinds big k n s k' n' s' = some (true, ()) := by
  have hb := big_million
  generalize big = N at hb
  have hN : 1000 < N := by omega
  unfold law02_ValueKinds law02_ValueKinds_cps
  rw [alive_eq hb, bind_some']
  by_cases h1 : (500 : Int) < s.length
  · rw [if_t h1]
  rw [if_f h1]
  by_cases h2 : (500 : Int) < s'.length
  · rw [if_t h2]
  rw [if_f h2, right_eq, bind_some']
  cases hr : rightB k n s with
  | false => rfl
  | true =>
  dsimp only
  rw [cond_f (show (!true) = false from rfl), right_eq, bind_some']
  cases hr' : rightB k' n' s' with
  | false => rfl
  | true =>
  dsimp only
  rw [cond_f (show (!true) = false from rfl)]
  by_cases hk : k = k'
  · rw [if_t hk]
  rw [if_f hk]
  unfold law02_ValueKinds_j0
  rw [order_eq hN, bind_some', alive_eq hb, bind_some', text_eq hN hn, bind_some', text_eq hN hn', bind_some']
  dsimp only
  have ho : ord (k, (n, (s, ()))) (k', (n', (s', ()))) < 0 ↔ k < k' := by
    rw [ord_lt]; unfold ltV; dsimp only
    constructor
    · rintro (h | ⟨h, _⟩)
      · exact h
      · exact absurd h hk
    · exact .inl
  have hz : ¬ ord (k, (n, (s, ()))) (k', (n', (s', ()))) = 0 := by
    rw [ord_zero]; intro e; cases e; exact hk rfl
  have ht : ¬ txt k n s = txt k' n' s' := fun e => hk (txt_inj hn hn' hr hr' e).1
  rw [cond_t (rfl : true = true), cond_t (by rw [show decide (ord (k, (n, (s, ()))) (k', (n', (s', ()))) < 0) = decide (k < k') from decide_eq_decide.2 ho]; simp), cond_t (by rw [dec_f hz]; rfl), cond_t (by rw [dec_f ht]; rfl)]
  by_cases h0 : k = 0
  · rw [cond_f (by rw [dec_t h0]; rfl)]
    have hk' : 0 ≤ k' := by
      unfold rightB at hr'
      split at hr'
      · omega
      · split at hr'
        · omega
        · split at hr'
          · omega
          · split at hr'
            · omega
            · cases hr'
    rw [dec_t (ho.2 (by omega))]
  · rw [cond_t (by rw [dec_f h0]; rfl)]

theorem ValueKinds_pure : ValueKinds_Pure := fun x h => ValueKinds_all h.1.2.1 h.2.1.2.1

end Go.Proofs.YtmpglmalfkkokaaDoor.E
