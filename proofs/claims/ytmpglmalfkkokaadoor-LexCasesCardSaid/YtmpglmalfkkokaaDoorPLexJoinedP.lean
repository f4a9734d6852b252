/-
  Plain laws of the pure functions.
  Conditions: those that each statement prints, and no other.
-/
import Derived.Test.YtmpglmalfkkokaaDoorPLexAgainP
set_option linter.unusedVariables false
set_option linter.unusedSimpArgs false
/-! Two texts, joined by a blank. -/
namespace Go.Proofs.YtmpglmalfkkokaaDoor.E
open Go.Ev

/-- A token, moved. -/
def mv (d : Nat) (t : TT) : TT := (t.1, (t.2.1, (t.2.2.1, (t.2.2.2.1 + (d : Int), ()))))

theorem mv_mk (d i : Nat) (z : Tk) : mv d (mk z i) = mk z (i + d) := by
  unfold mv mk; simp

theorem Lx_mv {i : Nat} {s : Bs} {l : List TT} (h : Lx i s l) (d : Nat) : Lx (i + d) s (l.map (mv d)) := by
  induction h with
  | nil => exact .nil
  | blank h _ ih =>
    rename_i i c r l _
    exact .blank h (by rw [show i + 1 + d = i + d + 1 by omega] at ih; exact ih)
  | tok h hn _ ih =>
    rename_i i c r z l _
    simp only [List.map_cons, mv_mk]
    exact .tok h hn (by rw [show i + z.2.1.length + d = i + d + z.2.1.length by omega] at ih; exact ih)

/-- What stands before a blank stands there by itself. -/
theorem Lx_app {i : Nat} {s : Bs} {l : List TT} (h : Lx i s l) {q : Bs} {l' : List TT} : Lx (i + s.length + 1) q l' → Lx i (s ++ 32 :: q) (l ++ l') := by
  induction h with
  | nil => intro h'; exact .blank (by decide) (by simpa using h')
  | blank hb _ ih =>
    intro h'
    rename_i i c r l _
    simp only [List.length_cons] at h'
    exact .blank hb (ih (by rw [show i + 1 + r.length + 1 = i + (r.length + 1) + 1 by omega]; exact h'))
  | tok hb hn _ ih =>
    intro h'
    rename_i i c r z l _
    obtain ⟨n1, n2⟩ := next_len hn
    have key : nextP ((c :: r) ++ 32 :: q) = some z := by
      have e : ∀ u : Bs, (c :: r) ++ u = (c :: r).take z.2.1.length ++ ((c :: r).drop z.2.1.length ++ u) := fun u => by rw [← List.append_assoc, List.take_append_drop]
      rw [e]
      refine next_cut (q := (c :: r).drop z.2.1.length) ?_ (by rw [List.take_append_drop]; exact hn) (by rw [List.length_take]; omega)
      cases hd : (c :: r).drop z.2.1.length with
      | nil => exact .inr rfl
      | cons x y => exact .inl rfl
    refine .tok hb key ?_
    have e2 : (c :: (r ++ 32 :: q)).drop z.2.1.length = (c :: r).drop z.2.1.length ++ 32 :: q := by
      show ((c :: r) ++ 32 :: q).drop z.2.1.length = _
      rw [List.drop_append_of_le_length n2]
    show Lx (i + z.2.1.length) ((c :: (r ++ 32 :: q)).drop z.2.1.length) (l ++ l')
    rw [e2]
    refine ih ?_
    rw [List.length_drop, show i + z.2.1.length + ((c :: r).length - z.2.1.length) + 1 = i + (c :: r).length + 1 by omega]
    exact h'

theorem joined_l2 {N : Nat} {R : Type} {k0 : Option R} {k1 : Bool → Option R} {s : Bs} {A B C : List TT} (hs : s.length ≤ 1000) (hA : 1 ≤ A.length) (hA2 : A.length ≤ 1000) (hC : C.length ≤ 1000)
    (hlen : C.length = A.length - 1 + B.length) (h1 : ∀ i, i < A.length - 1 → C[i]? = A[i]?) (h2 : ∀ i, C[A.length - 1 + i]? = (B[i]?).map (mv (s.length + 1)))
    (hp : ∀ t ∈ B, 0 ≤ t.2.2.2.1 ∧ t.2.2.2.1 ≤ 1000) : ∀ (m i fuel : Nat), i + m = C.length → m < fuel →
    law16_LexJoined_l2 N R k0 k1 fuel s A B C (i : Int) = k0 := by
  intro m
  induction m with
  | zero =>
    intro i fuel e1 e2
    obtain ⟨f, rfl⟩ : ∃ f, fuel = f + 1 := ⟨fuel - 1, by omega⟩
    show law16_LexJoined_l2B N R _ k0 k1 s A B C (i : Int) = _
    unfold law16_LexJoined_l2B
    rw [if_f (by omega)]
  | succ m ih =>
    intro i fuel e1 e2
    obtain ⟨f, rfl⟩ : ∃ f, fuel = f + 1 := ⟨fuel - 1, by omega⟩
    have hi : i < C.length := by omega
    show law16_LexJoined_l2B N R (law16_LexJoined_l2 N R k0 k1 f) k0 k1 s A B C (i : Int) = _
    unfold law16_LexJoined_l2B
    have hw : IntKind.wrap .i64 ((A.length : Int) - 1) = ((A.length - 1 : Nat) : Int) := by rw [wrap_i64_id (by omega) (by omega)]; omega
    have step : law16_LexJoined_l2 N R k0 k1 f s A B C (IntKind.wrap .i64 ((i : Int) + 1)) = k0 := by
      rw [wrap_succ hi (by omega)]
      exact ih (i + 1) f (by omega) (by omega)
    rw [if_t (by omega), nth_lt hi, bind_some', hw, step]
    by_cases ha : i < A.length - 1
    · have hia : i < A.length := by omega
      have e : C[i] = A[i] := by
        have := h1 i ha
        rw [List.getElem?_eq_getElem hi, List.getElem?_eq_getElem hia] at this
        exact Option.some.inj this
      rw [if_t (by omega), nth_lt hia, bind_some', e, cond_f (by simp)]
    · have hw2 : IntKind.wrap .i64 (IntKind.wrap .i64 ((i : Int) - (A.length : Int)) + 1) = ((i - (A.length - 1) : Nat) : Int) := by
        rw [wrap_i64_id (x := (i : Int) - (A.length : Int)) (by omega) (by omega), wrap_i64_id (by omega) (by omega)]; omega
      have hib : i - (A.length - 1) < B.length := by omega
      have e : C[i] = mv (s.length + 1) B[i - (A.length - 1)] := by
        have := h2 (i - (A.length - 1))
        rw [show A.length - 1 + (i - (A.length - 1)) = i by omega, List.getElem?_eq_getElem hi, List.getElem?_eq_getElem hib] at this
        exact Option.some.inj this
      obtain ⟨p1, p2⟩ := hp _ (List.getElem_mem hib)
      have hw3 : IntKind.wrap .i64 (IntKind.wrap .i64 ((B[i - (A.length - 1)]).2.2.2.1 + (s.length : Int)) + 1) = (B[i - (A.length - 1)]).2.2.2.1 + ((s.length + 1 : Nat) : Int) := by
        rw [wrap_i64_id (x := (B[i - (A.length - 1)]).2.2.2.1 + (s.length : Int)) (by omega) (by omega), wrap_i64_id (by omega) (by omega)]; omega
      rw [if_f (by omega), hw2, nth_lt hib, bind_some', e, hw3, cond_f (by simp [mv])]

theorem Lx_place {i : Nat} {s : Bs} {l : List TT} (h : Lx i s l) : ∀ t ∈ l, 0 ≤ t.2.2.2.1 ∧ t.2.2.2.1 ≤ ((i + s.length : Nat) : Int) := by
  induction h with
  | nil => simp
  | blank _ _ ih =>
    intro t ht
    have := ih t ht
    simp only [List.length_cons] at *
    omega
  | tok _ hn _ ih =>
    intro t ht
    obtain ⟨n1, n2⟩ := next_len hn
    rcases List.mem_cons.1 ht with rfl | ht
    · simp only [mk]; omega
    · have := ih t ht
      simp only [List.length_drop] at *
      omega

theorem LexJoined_all (s q : Bs) : law16_LexJoined big s q = some (true, ()) := by
  have ha := alive16
  have hb := big_million
  generalize big = N at ha hb
  unfold law16_LexJoined law16_LexJoined_cps
  rw [ha]
  rcases Lex_eq hb s with ⟨g1, l, hl, hr⟩ | ⟨_, p, hr⟩
  · rcases Lex_eq hb q with ⟨g2, l2, hl2, hr2⟩ | ⟨_, p2, hr2⟩
    · rw [hr, hr2]
      simp only [bind_some']
      by_cases h4 : 400 < s.length
      · rw [if_t (by omega)]
      · rw [if_f (by omega)]
        by_cases h5 : 400 < q.length
        · rw [if_t (by omega)]
        · rw [if_f (by omega), cond_f (show (!Err.isNil Err.nil) = false from rfl), cond_f (show (!Err.isNil Err.nil) = false from rfl)]
          have k1 := Lx_len hl
          have k2 := Lx_len hl2
          unfold law16_LexJoined_j0
          rw [cond_t (room_one (by simp; omega)), cond_t (room_one (by simp; omega))]
          have e : (s ++ [32]) ++ q = s ++ 32 :: q := by simp
          have hj := Lx_app hl (q := q) (l' := l2.map (mv (s.length + 1))) (by
            have := Lx_mv hl2 (s.length + 1)
            rw [Nat.zero_add] at this ⊢; exact this)
          have hw : IntKind.wrap .i64 (IntKind.wrap .i64 (((l ++ [endT s.length]).length : Int) - 1) + ((l2 ++ [endT q.length]).length : Int)) = ((l.length + (l2.length + 1) : Nat) : Int) := by
            simp only [List.length_append, List.length_cons, List.length_nil]
            rw [wrap_i64_id (x := ((l.length + (0 + 1) : Nat) : Int) - 1) (by omega) (by omega), wrap_i64_id (by omega) (by omega)]; omega
          rw [e, Lex_ok hb (by simp; omega) hj, bind_some']
          dsimp only
          rw [cond_f (show (!Err.isNil Err.nil) = false from rfl), hw, cond_f (by simp)]
          unfold law16_LexJoined_j1
          have hC : (l ++ l2.map (mv (s.length + 1))) ++ [endT (s ++ 32 :: q).length] = l ++ (l2 ++ [endT q.length]).map (mv (s.length + 1)) := by
            simp [mv, endT]; omega
          rw [hC]
          refine (joined_l2 (A := l ++ [endT s.length]) (B := l2 ++ [endT q.length]) (C := l ++ (l2 ++ [endT q.length]).map (mv (s.length + 1))) (by omega) (by simp) (by simp; omega) (by simp; omega) (by simp) ?_ ?_ ?_ (l.length + (l2.length + 1)) 0 N (by simp) (by omega)).trans ?_
          · intro i hi
            simp only [List.length_append, List.length_cons, List.length_nil] at hi
            rw [List.getElem?_append_left (by omega), List.getElem?_append_left (by omega)]
          · intro i
            simp only [List.length_append, List.length_cons, List.length_nil]
            rw [List.getElem?_append_right (by omega), List.getElem?_map, show l.length + (0 + 1) - 1 + i - l.length = i by omega]
          · intro t ht
            rcases List.mem_append.1 ht with ht | ht
            · have := Lx_place hl2 t ht
              omega
            · simp only [List.mem_singleton] at ht
              subst ht
              simp only [endT]; omega
          · rw [ha]; rfl
    · rw [hr, hr2]
      simp only [bind_some']
      by_cases h4 : 400 < s.length
      · rw [if_t (by omega)]
      · rw [if_f (by omega)]
        by_cases h5 : 400 < q.length
        · rw [if_t (by omega)]
        · rw [if_f (by omega)]; rfl
  · rcases Lex_eq hb q with ⟨g2, l2, hl2, hr2⟩ | ⟨_, p2, hr2⟩ <;>
    · rw [hr, hr2]
      simp only [bind_some']
      by_cases h4 : (400 : Int) < s.length
      · rw [if_t (by omega)]
      · rw [if_f (by omega)]
        by_cases h5 : (400 : Int) < q.length
        · rw [if_t (by omega)]
        · rw [if_f (by omega)]; rfl

theorem LexJoined_pure : LexJoined_Pure := fun x _ => LexJoined_all _ _

end Go.Proofs.YtmpglmalfkkokaaDoor.E
