/-
  Plain laws of the pure functions.
  Conditions: those that each statement prints, and no other.
-/
import Derived.Test.YtbikfekdakigiaaGreatDoorPLLexNP
import Derived.KernelRfl
set_option linter.unusedVariables false
set_option linter.unusedSimpArgs false
namespace Go.Proofs.YtbikfekdakigiaaGreatDoor.E.L
open Go.Ev
abbrev TT := Int × (Bs × ((Int × (Int × (Bs × Unit))) × (Int × Unit)))
def mk (z : Tk) (i : Nat) : TT := (z.1, (z.2.1, ((z.2.2.1, (z.2.2.2.1, (z.2.2.2.2, ()))), ((i : Int), ()))))
def endT (n : Nat) : TT := (6, ([], ((0, (0, ([], ()))), ((n : Int), ()))))
inductive Lx : Nat → Bs → List TT → Prop
 | nil {i : Nat} : Lx i [] []
 | blank {i : Nat} {c : UInt8} {r : Bs} {l : List TT} (h : ofB c = 1) (hl : Lx (i + 1) r l) : Lx i (c :: r) l
 | tok {i : Nat} {c : UInt8} {r : Bs} {z : Tk} {l : List TT} (h : ofB c ≠ 1) (hn : nextP (c :: r) = some z) (hl : Lx (i + z.2.1.length) ((c :: r).drop z.2.1.length) l) : Lx i (c :: r) (mk z i :: l)
theorem numEnd_some {s : Bs} {n : Nat} {t rest : Bs} {k : Int} {z : Tk} (h : numEnd s n t rest k = some z) : z = (2, (s.take n, (k, (parseV t, [])))) ∧ barred rest = false ∧ (parseE t).isNil = true := by
 unfold numEnd at h
 split at h
 · cases h
 · rename_i hb
   split at h
   · rename_i hp; cases h; exact ⟨rfl, by simpa using hb, hp⟩
   · cases h
theorem next_len {s : Bs} {z : Tk} (h : nextP s = some z) : 1 ≤ z.2.1.length ∧ z.2.1.length ≤ s.length := by
 cases s with
 | nil => cases h
 | cons c r =>
  unfold nextP at h
  dsimp only at h
  split at h
  · rename_i h2
    split at h
    · rename_i hx
      unfold rawP at h
      have hl := hx.1.length_le
      simp only [List.length_cons, List.length_nil] at hl
      split at h
      · cases h
      · rename_i o n hq
        have := qd_le _ _ _ hq
        simp at this
        split at h
        · cases h
        · obtain ⟨v, hv, rfl⟩ := Option.map_eq_some_iff.1 h
          simp; omega
    · cases h
      have hs := spn_le isPartB (c :: r)
      have h1 : 1 ≤ spn isPartB (c :: r) := by
       rw [spn_cons, if_pos (by simp [isPartB, h2])]; omega
      simp [Lib.toLowerA] at hs ⊢; omega
  · split at h
    · rename_i h3
      have hs := spn_le isFigB (c :: r)
      have h1 : 1 ≤ spn isFigB (c :: r) := by
       rw [spn_cons, if_pos (by simp [isFigB, h3])]; omega
      unfold numP at h
      dsimp only at h
      split at h
      · rename_i hd
        have hl := hd.length_le
        have hk := spn_le isFigB ((List.drop (spn isFigB (c :: r)) (c :: r)).drop 1)
        simp only [List.length_cons, List.length_nil, List.length_drop] at hl hk
        split at h
        · cases h
        · obtain ⟨rfl, _⟩ := numEnd_some h
          simp at hs ⊢; omega
      · obtain ⟨rfl, _⟩ := numEnd_some h
        simp at hs ⊢; omega
    · split at h
      · unfold textP at h
        split at h
        · cases h
        · rename_i o n hq
          have := qd_le _ _ _ hq
          simp at this
          split at h
          · cases h
          · cases h; simp; omega
      · unfold signP at h
        split at h
        · rename_i hp; cases h; have := hp.length_le; simpa using this
        · split at h
          · rename_i hp; cases h; have := hp.length_le; simpa using this
          · split at h
            · rename_i hp; cases h; have := hp.length_le; simpa using this
            · dsimp only at h
              split at h
              · cases h; simp
              · cases h
theorem Lx_uniq {i : Nat} {s : Bs} {l l' : List TT} (h : Lx i s l) (h' : Lx i s l') : l = l' := by
 induction h generalizing l' with
 | nil => cases h'; rfl
 | blank h _ ih =>
  cases h' with
  | blank _ h2 => exact ih h2
  | tok hb => exact absurd h hb
 | tok h hn _ ih =>
  cases h' with
  | blank hb _ => exact absurd hb h
  | tok _ hn' h2 =>
   rw [hn] at hn'; cases hn'
   rw [ih h2]
theorem Lx_len {i : Nat} {s : Bs} {l : List TT} (h : Lx i s l) : l.length ≤ s.length := by
 induction h with
 | nil => simp
 | blank _ _ ih => simp; omega
 | tok _ hn _ ih =>
  have := next_len hn
  simp only [List.length_drop, List.length_cons] at *; omega
theorem new_eq (N : Nat) {c : Int} (p : Int) (hc : c ≠ 0) : fault_New N c p = some (Err.fault c p Err.nil, ()) := by
 unfold fault_New fault_New_cps; rw [if_f hc]
theorem lex_loop {N : Nat} (hN : 1000000 < N) {R : Type} {k0 : Bs → List TT → Option R} {k1 : Bs → Err → List TT → Option R} {s : Bs} (hs : s.length ≤ 1000) : ∀ (m i : Nat) (acc : List TT) (fuel : Nat), i + m = s.length → m < fuel → acc.length ≤ i →
 (∃ l, Lx i (s.drop i) l ∧ lex_Lex_l0 N R k0 k1 fuel s acc (i : Int) = k0 s (acc ++ l)) ∨
  (∃ (p : Nat) (acc' : List TT), i ≤ p ∧ (∀ l, ¬ Lx i (s.drop i) l) ∧ lex_Lex_l0 N R k0 k1 fuel s acc (i : Int) = k1 s (Err.fault 161 (p : Int) Err.nil) acc') := by
 intro m
 induction m using Nat.strongRecOn with
 | ind m ih =>
  intro i acc fuel h1 h2 h3
  obtain ⟨f, rfl⟩ : ∃ f, fuel = f + 1 := ⟨fuel - 1, by omega⟩
  show (∃ l, _ ∧ lex_Lex_l0B N R (lex_Lex_l0 N R k0 k1 f) k0 k1 s acc (i : Int) = _) ∨ (∃ p acc', _ ∧ _ ∧ lex_Lex_l0B N R (lex_Lex_l0 N R k0 k1 f) k0 k1 s acc (i : Int) = _)
  unfold lex_Lex_l0B
  by_cases hi : i < s.length
  · have e : s.drop i = s[i] :: s.drop (i + 1) := List.drop_eq_getElem_cons hi
    rw [if_t (by omega), nth_lt hi, bind_some', of_eq, bind_some']
    dsimp only
    by_cases hb : ofB s[i] = 1
    · rw [if_t hb, wrap_succ hi (by omega)]
      rcases ih (m - 1) (by omega) (i + 1) acc f (by omega) (by omega) (by omega) with ⟨l, hl, hr⟩ | ⟨p, acc', hp, hno, hr⟩
      · exact .inl ⟨l, by rw [e]; exact .blank hb hl, hr⟩
      · refine .inr ⟨p, acc', by omega, fun l hl => ?_, hr⟩
        rw [e] at hl
        cases hl with
        | blank _ h => exact hno _ h
        | tok h => exact h hb
    · rw [if_f hb, if_t (by omega), Int.toNat_natCast, List.take_length, next_eq hN (by simp; omega) (by simp; omega), bind_some']
      cases hn : nextP (s.drop i) with
      | none =>
       refine .inr ⟨i, acc, Nat.le_refl _, fun l hl => ?_, ?_⟩
       · rw [e] at hl hn
         cases hl with
         | blank h _ => exact hb h
         | tok _ h _ => rw [h] at hn; cases hn
       · show (bif decide ([] = []) then _ else _) = _
         rw [if_t rfl, new_eq N _ (by decide), bind_some']
      | some z =>
       obtain ⟨l1, l2⟩ := next_len hn
       simp only [List.length_drop] at l2
       have hne : ¬ (outT (some z)).2.1 = [] := by
        show ¬ z.2.1 = []
        intro h; rw [h] at l1; simp at l1
       have hlen : (outT (some z)).2.1 = z.2.1 := rfl
       have hw : IntKind.wrap .i64 ((i : Int) + ((outT (some z)).2.1.length : Int)) = ((i + z.2.1.length : Nat) : Int) := by rw [hlen, wrap_i64_id (by omega) (by omega)]; omega
       rw [if_f hne, cond_t (room_of (by simp; omega)), hw]
       have hmk : ([((outT (some z)).1, ((outT (some z)).2.1, (((outT (some z)).2.2.1, ((outT (some z)).2.2.2.1, ((outT (some z)).2.2.2.2.1, ()))), ((i : Int), ()))))] : List TT) = [mk z i] := rfl
       rw [hmk]
       have hdd : (s.drop i).drop z.2.1.length = s.drop (i + z.2.1.length) := by rw [List.drop_drop]
       rcases ih (m - z.2.1.length) (by omega) (i + z.2.1.length) (acc ++ [mk z i]) f (by omega) (by omega) (by simp; omega) with ⟨l, hl, hr⟩ | ⟨p, acc', hp, hno, hr⟩
       · refine .inl ⟨mk z i :: l, ?_, by rw [hr]; simp⟩
         rw [← hdd] at hl
         rw [e] at hn hl ⊢
         exact .tok hb hn hl
       · refine .inr ⟨p, acc', by omega, fun l hl => ?_, hr⟩
         rw [← hdd] at hno
         rw [e] at hl hn hno
         cases hl with
         | blank h _ => exact hb h
         | tok _ h h2 => rw [h] at hn; cases hn; exact hno _ h2
  · rw [if_f (by omega), List.drop_eq_nil_of_le (by omega)]
    exact .inl ⟨[], .nil, by simp⟩
theorem Lex_eq {N : Nat} (hN : 1000000 < N) (s : Bs) : (s.length ≤ 1000 ∧ ∃ l, Lx 0 s l ∧ lex_Lex N s = some (l ++ [endT s.length], (Err.nil, ()))) ∨
 ((s.length ≤ 1000 → ∀ l, ¬ Lx 0 s l) ∧ ∃ p : Nat, lex_Lex N s = some ([], (Err.fault 161 (p : Int) Err.nil, ()))) := by
 unfold lex_Lex lex_Lex_cps
 by_cases h : 1000 < s.length
 · rw [if_t (by omega), new_eq N _ (by decide), bind_some']
   exact .inr ⟨fun h' => absurd h' (by omega), 0, rfl⟩
 · rw [if_f (by omega)]
   rcases lex_loop hN (R := List TT × Err × Unit) (k0 := fun v3 v4 => bif (room 64 (v4.length + ([(6, ([], ((0, (0, ([], ()))), ((v3.length : Int), ()))))] : List TT).length)) then some (v4 ++ [(6, ([], ((0, (0, ([], ()))), ((v3.length : Int), ()))))], (Err.nil, ())) else none)
    (k1 := fun _ v6 _ => some ([], (v6, ()))) (s := s) (by omega) s.length 0 [] N (by omega) (by omega) (by simp) with ⟨l, hl, hr⟩ | ⟨p, acc', hp, hno, hr⟩
   · refine .inl ⟨by omega, l, hl, hr.trans ?_⟩
     have := Lx_len hl
     simp only [List.drop_zero] at this
     rw [cond_t (room_of (by simp; omega))]
     rfl
   · exact .inr ⟨fun _ l hl => hno l hl, p, hr⟩
theorem Lex_ok {N : Nat} (hN : 1000000 < N) {s : Bs} {l : List TT} (hs : s.length ≤ 1000) (h : Lx 0 s l) : lex_Lex N s = some (l ++ [endT s.length], (Err.nil, ())) := by
 rcases Lex_eq hN s with ⟨_, l', h1, h2⟩ | ⟨h1, _⟩
 · rw [Lx_uniq h h1]; exact h2
 · exact absurd h (h1 hs l)
theorem big_million : 1000000 < big := big_gt _ (by decide)
end Go.Proofs.YtbikfekdakigiaaGreatDoor.E.L
