/-
  Plain laws of the pure functions.
  Conditions: those that each statement prints, and no other.
-/
import Derived.Test.YtmpglmalfkkokaaDoorPValOrdP
set_option linter.unusedVariables false
set_option linter.unusedSimpArgs false
/-! The order of values: the program's answer and the document's are one. -/
namespace Go.Proofs.YtmpglmalfkkokaaDoor.E
open Go.Ev

theorem small_eq (N : Nat) (k n : Int) (s : Bs) : law02_small N k n s = some (decide ((s.length : Int) ≤ 500), ()) := rfl

theorem orders_loop {N : Nat} (hb : 1000000 < N) {R : Type} {r : Option R} {k0 : Int → Int → Int → Bs → Int → Int → Bs → List VT → List VT → Option R} {k1 : Bool → Int → Int → Int → Bs → Int → Int → Bs → List VT → List VT → Option R}
    {k n : Int} {s : Bs} {k' n' : Int} {s' : Bs} {a b : List VT} {i : Int} (hi : i = 0 ∨ i = 1) (ha : a.length ≤ 20) (hbl : b.length ≤ 20)
    (h0 : k0 i k n s k' n' s' a b = r) (h1 : k1 true i k n s k' n' s' a b = r) : ∀ (m j fuel : Nat), j + m = 20 → m < fuel → law02_ValueOrders_l2 N R k0 k1 fuel i (j : Int) k n s k' n' s' a b = r := by
  intro m
  induction m with
  | zero =>
    intro j fuel hj hf
    obtain ⟨f, rfl⟩ : ∃ f, fuel = f + 1 := ⟨fuel - 1, by omega⟩
    show law02_ValueOrders_l2B N R _ k0 k1 i (j : Int) k n s k' n' s' a b = r
    unfold law02_ValueOrders_l2B
    rcases hi with rfl | rfl
    · rw [if_t rfl, if_f (by omega)]; exact h0
    · rw [if_f (by decide), if_t rfl, if_f (by omega)]; exact h0
  | succ m ih =>
    intro j fuel hj hf
    obtain ⟨f, rfl⟩ : ∃ f, fuel = f + 1 := ⟨fuel - 1, by omega⟩
    show law02_ValueOrders_l2B N R (law02_ValueOrders_l2 N R k0 k1 f) k0 k1 i (j : Int) k n s k' n' s' a b = r
    unfold law02_ValueOrders_l2B
    rw [alive_eq hb, bind_some']
    have step : ∀ (l : List VT), l.length ≤ 20 → (hlt : j < l.length) → (Option.bind (nth l (j : Int)) fun v => Option.bind (law02_small N v.1 v.2.1 v.2.2.1) fun v93 => bif !v93.1 then k1 true i k n s k' n' s' a b else
        law02_ValueOrders_l2 N R k0 k1 f i (IntKind.wrap .i64 ((j : Int) + 1)) k n s k' n' s' a b) = r := by
      intro l hl hlt
      rw [nth_lt hlt, bind_some', small_eq, bind_some', wrap_succ hlt (by omega), ih (j + 1) f (by omega) (by omega)]
      dsimp only
      rw [h1]
      cases decide ((l[j].2.2.1.length : Int) ≤ 500) <;> rfl
    rcases hi with rfl | rfl
    · rw [if_t rfl]
      by_cases hlt : j < a.length
      · rw [if_t (by omega), if_t rfl]; exact step a ha hlt
      · rw [if_f (by omega)]; exact h0
    · rw [if_f (by decide), if_t rfl]
      by_cases hlt : j < b.length
      · rw [if_t (by omega), if_f (by decide), if_t rfl]; exact step b hbl hlt
      · rw [if_f (by omega)]; exact h0

theorem ValueOrders_all (k n : Int) (s : Bs) (k' n' : Int) (s' : Bs) (a b : List VT) : law02_ValueOrders big k n s k' n' s' a b = some (true, ()) := by
  have hb := big_million
  generalize big = N at hb
  have hN : 1000 < N := by omega
  unfold law02_ValueOrders law02_ValueOrders_cps
  rw [alive_eq hb, bind_some']
  by_cases h1 : (20 : Int) < a.length
  · rw [if_t h1]
  rw [if_f h1]
  by_cases h2 : (20 : Int) < b.length
  · rw [if_t h2]
  rw [if_f h2]
  by_cases h3 : (500 : Int) < s.length
  · rw [if_t h3]
  rw [if_f h3]
  by_cases h4 : (500 : Int) < s'.length
  · rw [if_t h4]
  rw [if_f h4]
  unfold law02_ValueOrders_j0
  obtain ⟨f, hf⟩ : ∃ f, N = f + 3 := ⟨N - 3, by omega⟩
  have fin : ∀ {R : Type} {k0 : Int → Int → Bs → Int → Int → Bs → List VT → List VT → Option R} {k1 : Bool → Int → Int → Bs → Int → Int → Bs → List VT → List VT → Option R} {r : Option R},
      k0 k n s k' n' s' a b = r → k1 true k n s k' n' s' a b = r → law02_ValueOrders_l1 N R k0 k1 (f + 3) 0 k n s k' n' s' a b = r := by
    intro R k0 k1 r e0 e1
    show law02_ValueOrders_l1B N R (law02_ValueOrders_l1 N R k0 k1 (f + 2)) k0 k1 0 k n s k' n' s' a b = r
    unfold law02_ValueOrders_l1B
    rw [if_t (by decide)]
    refine orders_loop hb (.inl rfl) (by omega) (by omega) ?_ e1 20 0 N rfl (by omega)
    show law02_ValueOrders_l1B N R (law02_ValueOrders_l1 N R k0 k1 (f + 1)) k0 k1 1 k n s k' n' s' a b = r
    unfold law02_ValueOrders_l1B
    rw [if_t (by decide)]
    refine orders_loop hb (.inr rfl) (by omega) (by omega) ?_ e1 20 0 N rfl (by omega)
    show law02_ValueOrders_l1B N R (law02_ValueOrders_l1 N R k0 k1 f) k0 k1 2 k n s k' n' s' a b = r
    unfold law02_ValueOrders_l1B
    rw [if_f (by decide)]
    exact e0
  refine Eq.trans (congrArg (fun m => law02_ValueOrders_l1 N _ _ _ m _ _ _ _ _ _ _ _ _) hf) (fin ?_ rfl)
  rw [alive_eq hb, bind_some', right_eq, bind_some', rright_eq, bind_some', order_eq hN, bind_some', rorder_eq, bind_some', rows_eq hN a b (by omega), bind_some', rrows_eq hN a b (by omega), bind_some']
  simp

theorem ValueOrders_pure : ValueOrders_Pure := fun x h => ValueOrders_all _ _ _ _ _ _ _ _

end Go.Proofs.YtmpglmalfkkokaaDoor.E
