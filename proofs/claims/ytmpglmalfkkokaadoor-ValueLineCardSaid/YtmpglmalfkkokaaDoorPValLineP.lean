/-
  Plain laws of the pure functions.
  Conditions: those that each statement prints, and no other.
-/
import Derived.Test.YtmpglmalfkkokaaDoorPValOrdP
set_option linter.unusedVariables false
set_option linter.unusedSimpArgs false
/-! One line. -/
namespace Go.Proofs.YtmpglmalfkkokaaDoor.E
open Go.Ev

theorem line_j1 {N : Nat} (hb : 1000000 < N) {R : Type} {k0 : Bool → Int → Int → Bs → Int → Int → Bs → Int → Int → Bs → Option R} {k n : Int} {s : Bs} {k' n' : Int} {s' : Bs} {k2 n2 : Int} {s2 : Bs} :
    law02_ValueLine_j1 N R k0 (ord (k', (n', (s', ()))) (k2, (n2, (s2, ())))) k n s k' n' s' k2 n2 s2 = k0 true k n s k' n' s' k2 n2 s2 := by
  have hN : 1000 < N := by omega
  unfold law02_ValueLine_j1
  rw [alive_eq hb, bind_some', rows_eq hN _ _ (by simp), bind_some']
  have e1 : rowsO [(k, (n, (s, ()))), (k', (n', (s', ())))] [(k, (n, (s, ()))), (k2, (n2, (s2, ())))] = ord (k', (n', (s', ()))) (k2, (n2, (s2, ()))) := by
    simp only [rowsO, ord_self]
    by_cases h : ord (k', (n', (s', ()))) (k2, (n2, (s2, ()))) = 0 <;> simp [h]
  have t1 : List.drop 0 (List.take 1 [(k, (n, (s, ()))), (k', (n', (s', ())))]) = ([(k, (n, (s, ())))] : List VT) := rfl
  have e2 : rowsO [(k, (n, (s, ()))), (k', (n', (s', ())))] [(k, (n, (s, ())))] = 1 := by simp [rowsO, ord_self]
  have e3 : rowsO [(k, (n, (s, ())))] [(k, (n, (s, ()))), (k', (n', (s', ())))] = -1 := by simp [rowsO, ord_self]
  dsimp only
  rw [cond_t (rfl : true = true), if_t e1, if_t (by simp), t1, rows_eq hN _ _ (by simp), bind_some']
  dsimp only
  rw [if_t e2, if_t (by simp), rows_eq hN _ _ (by simp), bind_some']
  dsimp only
  rw [if_t e3]
  unfold value_Rows_1 value_Rows_1_cps
  rw [cmpFunc_eq hN [] [] (by simp)]
  rfl

theorem ValueLine_all (k n : Int) (s : Bs) (k' n' : Int) (s' : Bs) (k2 n2 : Int) (s2 : Bs) : law02_ValueLine big k n s k' n' s' k2 n2 s2 = some (true, ()) := by
  have hb := big_million
  generalize big = N at hb
  have hN : 1000 < N := by omega
  obtain ⟨f, hf⟩ : ∃ f, N = f + 4 := ⟨N - 4, by omega⟩
  have fin : ∀ {R : Type} {k0 : Int → Int → Bs → Int → Int → Bs → Int → Int → Bs → Option R} {k1 : Bool → Int → Int → Bs → Int → Int → Bs → Int → Int → Bs → Option R} {r : Option R},
      k0 k n s k' n' s' k2 n2 s2 = r → k1 true k n s k' n' s' k2 n2 s2 = r → law02_ValueLine_l0 N R k0 k1 (f + 4) 0 k n s k' n' s' k2 n2 s2 = r := by
    intro R k0 k1 r e0 e1
    have s0 : law02_ValueLine_l0 N R k0 k1 (f + 4) 0 k n s k' n' s' k2 n2 s2 = bif (decide (500 < (s.length : Int))) then (Option.bind (law02_alive N) fun v => k1 v.1 k n s k' n' s' k2 n2 s2) else law02_ValueLine_l0 N R k0 k1 (f + 3) 1 k n s k' n' s' k2 n2 s2 := rfl
    have s1 : law02_ValueLine_l0 N R k0 k1 (f + 3) 1 k n s k' n' s' k2 n2 s2 = bif (decide (500 < (s'.length : Int))) then (Option.bind (law02_alive N) fun v => k1 v.1 k n s k' n' s' k2 n2 s2) else law02_ValueLine_l0 N R k0 k1 (f + 2) 2 k n s k' n' s' k2 n2 s2 := rfl
    have s3 : law02_ValueLine_l0 N R k0 k1 (f + 2) 2 k n s k' n' s' k2 n2 s2 = bif (decide (500 < (s2.length : Int))) then (Option.bind (law02_alive N) fun v => k1 v.1 k n s k' n' s' k2 n2 s2) else law02_ValueLine_l0 N R k0 k1 (f + 1) 3 k n s k' n' s' k2 n2 s2 := rfl
    have s4 : law02_ValueLine_l0 N R k0 k1 (f + 1) 3 k n s k' n' s' k2 n2 s2 = k0 k n s k' n' s' k2 n2 s2 := rfl
    rw [s0, s1, s3, s4, alive_eq hb, bind_some', e0]
    dsimp only
    rw [e1]
    cases decide (500 < (s.length : Int)) <;> cases decide (500 < (s'.length : Int)) <;> cases decide (500 < (s2.length : Int)) <;> rfl
  unfold law02_ValueLine law02_ValueLine_cps
  refine Eq.trans (congrArg (fun m => law02_ValueLine_l0 N _ _ _ m _ _ _ _ _ _ _ _ _ _) hf) (fin ?_ rfl)
  rw [order_eq hN, bind_some', order_eq hN, bind_some', order_eq hN, bind_some', order_eq hN, bind_some']
  dsimp only
  simp only [line_j1 hb]
  generalize hA : ((k, (n, (s, ()))) : VT) = A
  generalize hB : ((k', (n', (s', ()))) : VT) = B
  generalize hC : ((k2, (n2, (s2, ()))) : VT) = C
  have r1 := ord_range A B
  have r2 := ord_range B A
  have hneg : IntKind.wrap .i64 (0 - ord B A) = -ord B A := by rw [wrap_i64_id (by omega) (by omega)]; omega
  have heq : (decide (ord A B = 0)) = ((decide (k = k')) && ((decide (n = n')) && (decide (s = s')))) := by
    have : ord A B = 0 ↔ (k = k' ∧ n = n' ∧ s = s') := by
      rw [ord_zero, ← hA, ← hB]
      constructor
      · intro e; cases e; exact ⟨rfl, rfl, rfl⟩
      · rintro ⟨rfl, rfl, rfl⟩; rfl
    rw [show decide (ord A B = 0) = decide (k = k' ∧ n = n' ∧ s = s') from decide_eq_decide.2 this]; simp
  rw [hneg, ← ord_neg A B, cond_f (by simp), heq, cond_f (by simp)]
  by_cases h1 : ord A B ≤ 0
  · rw [if_t h1]
    by_cases h2 : ord B C ≤ 0
    · obtain ⟨c1, c2⟩ := ord_chain h1 h2
      rw [if_t h2, if_f (by omega)]
      by_cases h3 : ord A B < 0
      · have := c2 h3
        rw [if_t h3, if_t h2, if_f (by omega)]
      · rw [if_f h3]
    · rw [if_f h2]
      by_cases h3 : ord A B < 0
      · rw [if_t h3, if_f h2]
      · rw [if_f h3]
  · rw [if_f h1, if_f (by omega)]

theorem ValueLine_pure : ValueLine_Pure := fun x h => ValueLine_all _ _ _ _ _ _ _ _ _

end Go.Proofs.YtmpglmalfkkokaaDoor.E
