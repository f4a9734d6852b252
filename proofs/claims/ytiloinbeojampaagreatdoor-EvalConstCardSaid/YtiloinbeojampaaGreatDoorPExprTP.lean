/-
  Plain laws of the pure functions.
  Conditions: those that each statement prints, and no other.
-/
import Derived.Test.YtiloinbeojampaaGreatDoorPParTP
import Derived.Test.YtiloinbeojampaaGreatDoorPMLexLP
set_option linter.unusedVariables false
set_option linter.unusedSimpArgs false
/-! An expression's text comes to an expression, or to a fault. -/
namespace Go.Proofs.YtiloinbeojampaaGreatDoor.E
open Go.Ev
set_option maxRecDepth 100000

abbrev Q11 := Int × Int × Int × List UInt8 × List UInt8 × List UInt8 × Int × List Ex × Int × Int × Err × Unit
def qe (x : Ex) (e : Err) : Q11 := (x.op, x.vk, x.vn, x.vs, x.tab, x.name, x.num, x.kids, x.kind, x.at_, e, ())

theorem wt_end (l : List Tk) (t : Tk) (h : t.1 = 6) : Wt (l ++ [t]) := by
  induction l with
  | nil => exact .inl h
  | cons x r ih => exact .inr ih

theorem wrap_fault (N : Nat) (c p c' p' : Int) (h : c ≠ 0) (e : Err) : fault_Wrap N (.fault c' p' e) c p = some (.fault c p (.fault c' p' e), ()) := by
  unfold fault_Wrap fault_Wrap_cps
  rw [show (Err.fault c' p' e).isNil = false from rfl, cf, if_f h]

/-- What a text comes to. -/
theorem expression_t (s : List UInt8) : (∃ x, parse_Expression big s = some (qe x .nil) ∧ hgt x ≤ 4000) ∨ (∃ x e, parse_Expression big s = some (qe x e) ∧ e.isNil = false) := by
  have hN : 1000 ≤ big := by rw [big_eq]; decide
  unfold parse_Expression parse_Expression_cps
  rcases L.Lex_eq L.big_million s with ⟨hs, l, hl, hp⟩ | ⟨_, p, hp⟩
  · rw [hp, bind_some']
    dsimp only
    rw [isNil_nil, cnt, cnt]
    have hlen := L.Lx_len hl
    have hw : Wt (l ++ [L.endT s.length]) := wt_end l _ rfl
    obtain ⟨x, st, hx, hpost, _⟩ := whole_tot big hN (some (l ++ [L.endT s.length])) hw (by rw [lenS_some, big_eq]; simp; omega)
    have hsim := parser_whole big hN 0 (some (l ++ [L.endT s.length])) (l ++ [L.endT s.length]) .nil (by decide) (by decide) (.ok hw)
    rw [hx] at hsim
    obtain ⟨l', e', hq, hr⟩ := hsim
    rw [hq, bind_some']
    unfold parse_parser_ended parse_parser_ended_cps
    cases st with
    | none =>
      obtain ⟨he, hne⟩ := hr
      obtain ⟨t, r, rfl⟩ := List.exists_cons_of_ne_nil hne
      right
      dsimp only [q]
      rw [nth_zero, bind_some', fail_bad big 171 _ _ he]
      have end_ : ∀ l : List Tk, Option.bind (some (e', l, (0 : Int), e', ())) (fun v6 : Err × List Tk × Int × Err × Unit => (bif (!(Err.isNil v6.1)) then some (0, 0, 0, [], [], [], 0, [], 0, 0, v6.1, ()) else some (x.op, x.vk, x.vn, x.vs, x.tab, x.name, x.num, x.kids, x.kind, x.at_, Err.nil, ()))) = some (qe z0 e') := by
        intro l
        rw [bind_some']
        dsimp only
        rw [he, cnf]; rfl
      refine ⟨z0, e', ?_, he⟩
      cases decide (t.1 = 6)
      · exact end_ (t :: r)
      · exact end_ (t :: r)
    | some l2 =>
      obtain ⟨rfl, rfl, hw2⟩ := hr
      obtain ⟨t, r, rfl⟩ := hw2.cons
      obtain ⟨_, h1, h2⟩ := hpost
      dsimp only [q]
      rw [nth_zero, bind_some']
      by_cases h6 : t.1 = 6
      · left
        rw [cond_f (by simp [h6]), bind_some']
        dsimp only
        rw [isNil_nil, cnt]
        refine ⟨x, rfl, ?_⟩
        simp only [lenS_some, List.length_append, List.length_cons, List.length_nil] at h1 h2
        omega
      · right
        rw [cond_t (by simp [h6]), fail_nil big 171 (by decide), bind_some', bind_some']
        dsimp only
        exact ⟨z0, _, rfl, rfl⟩
  · right
    rw [hp, bind_some']
    dsimp only
    rw [show (!(Err.fault 161 (p : Int) Err.nil).isNil) = true from rfl, ct]
    rw [show fault_At big (.fault 161 (p : Int) .nil) = some ((p : Int), ()) from rfl, bind_some', wrap_fault big 171 _ _ _ (by decide), bind_some']
    exact ⟨z0, _, rfl, rfl⟩

end Go.Proofs.YtiloinbeojampaaGreatDoor.E
