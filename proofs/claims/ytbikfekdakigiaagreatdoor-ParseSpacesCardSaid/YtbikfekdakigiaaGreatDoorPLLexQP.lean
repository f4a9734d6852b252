/-
  Plain laws of the pure functions.
  Conditions: those that each statement prints, and no other.
-/
import Derived.Test.YtbikfekdakigiaaGreatDoorPLLexP
set_option linter.unusedVariables false
set_option linter.unusedSimpArgs false
namespace Go.Proofs.YtbikfekdakigiaaGreatDoor.E.L
open Go.Ev
def qd : Bs → Option (Bs × Nat)
 | [] => none
 | [c] => if c = 39 then some ([], 1) else none
 | c :: d :: r => if c = 39 then (if d = 39 then (qd r).map fun p => (39 :: p.1, p.2 + 2) else some ([], 1)) else (qd (d :: r)).map fun p => (c :: p.1, p.2 + 1)
theorem qd_le : ∀ (s : Bs) (o : Bs) (n : Nat), qd s = some (o, n) → n ≤ s.length ∧ o.length + 1 ≤ n
 | [], o, n, h => by cases h
 | [c], o, n, h => by
  unfold qd at h
  split at h
  · cases h; simp
  · cases h
 | c :: d :: r, o, n, h => by
  unfold qd at h
  split at h
  · split at h
    · obtain ⟨⟨o', n'⟩, h1, h2⟩ := Option.map_eq_some_iff.1 h
      cases h2
      have := qd_le r o' n' h1
      simp; omega
    · cases h; simp
  · obtain ⟨⟨o', n'⟩, h1, h2⟩ := Option.map_eq_some_iff.1 h
    cases h2
    have := qd_le (d :: r) o' n' h1
    simp at this ⊢; omega
theorem ofTo (c : UInt8) : UInt8.ofNat (Int.toNat (c.toNat : Int)) = c := by simp
theorem c39 {c : UInt8} : ((c.toNat : Int) = 39) ↔ c = 39 := by
 constructor
 · intro h; apply UInt8.toNat_inj.1; show c.toNat = 39; omega
 · rintro rfl; rfl
theorem quoted_loop {N : Nat} {R : Type} {k0 : Option R} {k1 : Bs → Int → Option R} {s : Bs} (hs : s.length ≤ 1000000) : ∀ (m i : Nat) (acc : Bs) (fuel : Nat), i + m = s.length → m < fuel → acc.length ≤ i →
 lex_quoted_l0 N R k0 k1 fuel s acc (i : Int) = match qd (s.drop i) with
  | some (o, n) => k1 (acc ++ o) ((i + n : Nat) : Int)
  | none => k0 := by
 intro m
 induction m using Nat.strongRecOn with
 | ind m ih =>
  intro i acc fuel h1 h2 h3
  obtain ⟨f, rfl⟩ : ∃ f, fuel = f + 1 := ⟨fuel - 1, by omega⟩
  show lex_quoted_l0B N R (lex_quoted_l0 N R k0 k1 f) k0 k1 s acc (i : Int) = _
  unfold lex_quoted_l0B
  by_cases hi : i < s.length
  · have hw1 := wrap_succ hi (by omega)
    rw [if_t (by omega), nth_lt hi, bind_some', hw1]
    by_cases hq : s[i] = 39
    · rw [if_t (c39.2 hq)]
      by_cases hl : i + 1 = s.length
      · have e : s.drop i = [s[i]] := by rw [List.drop_eq_getElem_cons hi, List.drop_eq_nil_of_le (by omega)]
        rw [if_t (by omega), e]
        unfold qd
        rw [if_pos hq]
        simp
      · have hi1 : i + 1 < s.length := by omega
        have e : s.drop i = s[i] :: s[i + 1] :: s.drop (i + 2) := by rw [List.drop_eq_getElem_cons hi, List.drop_eq_getElem_cons hi1]
        rw [if_f (by omega), nth_lt hi1, bind_some', bind_some', e]
        unfold qd
        rw [if_pos hq]
        by_cases hq1 : s[i + 1] = 39
        · rw [cond_f (by rw [dec_t (c39.2 hq1)]; rfl), cond_t (room_one (by simp; omega)), wrap_succ hi1 (by omega), if_pos hq1, ofTo, ih (m - 2) (by omega) (i + 2) _ f (by omega) (by omega) (by simp; omega)]
          cases qd (s.drop (i + 2)) with
          | none => rfl
          | some p =>
           obtain ⟨o, n⟩ := p
           dsimp only [Option.map_some]
           rw [hq1, List.append_assoc]
           congr 1
           omega
        · rw [cond_t (by rw [dec_f (fun h => hq1 (c39.1 h))]; rfl), if_neg hq1]
          simp
    · rw [if_f (fun h => hq (c39.1 h)), bind_some', cond_t (room_one (by simp; omega)), ofTo, ih (m - 1) (by omega) (i + 1) _ f (by omega) (by omega) (by simp; omega)]
      by_cases hl : i + 1 = s.length
      · have e : s.drop i = [s[i]] := by rw [List.drop_eq_getElem_cons hi, List.drop_eq_nil_of_le (by omega)]
        rw [e, List.drop_eq_nil_of_le (by omega)]
        unfold qd
        rw [if_neg hq]
      · have hi1 : i + 1 < s.length := by omega
        have e : s.drop i = s[i] :: s[i + 1] :: s.drop (i + 2) := by rw [List.drop_eq_getElem_cons hi, List.drop_eq_getElem_cons hi1]
        have e1 : s.drop (i + 1) = s[i + 1] :: s.drop (i + 2) := by rw [List.drop_eq_getElem_cons hi1]
        rw [e, e1]
        conv => rhs; unfold qd
        rw [if_neg hq]
        cases qd (s[i + 1] :: s.drop (i + 2)) with
        | none => rfl
        | some p =>
         obtain ⟨o, n⟩ := p
         dsimp only [Option.map_some]
         rw [List.append_assoc]
         congr 1
         omega
  · rw [if_f (by omega), List.drop_eq_nil_of_le (by omega)]
    rfl
theorem quoted_eq {N : Nat} (hN : 1000000 < N) {s : Bs} (h1 : 1 ≤ s.length) (hs : s.length ≤ 1000000) : lex_quoted N s = some (match qd (s.drop 1) with
 | some (o, n) => (o, (((1 + n : Nat) : Int), ()))
 | none => ([], (0, ()))) := by
 unfold lex_quoted lex_quoted_cps
 have := quoted_loop (N := N) (R := Bs × Int × Unit) (k0 := some ([], (0, ()))) (k1 := fun v2 v3 => some (v2, (v3, ()))) hs (s.length - 1) 1 [] N (by omega) (by omega) (by simp)
 refine this.trans ?_
 cases qd (s.drop 1) with
 | none => rfl
 | some p => rfl
def spn (p : UInt8 → Bool) (s : Bs) : Nat := (s.takeWhile p).length
def isPartB (c : UInt8) : Bool := decide (2 ≤ ofB c)
def isFigB (c : UInt8) : Bool := decide (ofB c = 3)
theorem spn_cons {p : UInt8 → Bool} {c : UInt8} {r : Bs} : spn p (c :: r) = if p c then spn p r + 1 else 0 := by
 unfold spn
 rw [List.takeWhile_cons]
 split <;> simp
theorem spn_le (p : UInt8 → Bool) (s : Bs) : spn p s ≤ s.length := (List.takeWhile_prefix p).length_le
theorem take_spn (p : UInt8 → Bool) (s : Bs) : s.take (spn p s) = s.takeWhile p := (List.prefix_iff_eq_take.1 (List.takeWhile_prefix p)).symm
theorem span_eq {N : Nat} (hN : 1000000 < N) {s : Bs} (hs : s.length ≤ 1000000) : lex_span N s = some (((spn isPartB s : Nat) : Int), ()) := by
 have loop : ∀ (m i fuel : Nat), i + m = s.length → m < fuel → lex_span_l0 N (Int × Unit) (fun v2 => some (v2, ())) fuel s (i : Int) = some (((i + spn isPartB (s.drop i) : Nat) : Int), ()) := by
  intro m
  induction m with
  | zero =>
   intro i fuel h1 h2
   obtain ⟨f, rfl⟩ : ∃ f, fuel = f + 1 := ⟨fuel - 1, by omega⟩
   show lex_span_l0B N _ _ _ s (i : Int) = _
   unfold lex_span_l0B
   rw [if_f (by omega), List.drop_eq_nil_of_le (by omega)]
   rfl
  | succ m ih =>
   intro i fuel h1 h2
   obtain ⟨f, rfl⟩ : ∃ f, fuel = f + 1 := ⟨fuel - 1, by omega⟩
   show lex_span_l0B N _ (lex_span_l0 N _ _ f) _ s (i : Int) = _
   unfold lex_span_l0B
   have hi : i < s.length := by omega
   rw [if_t (by omega), nth_lt hi, bind_some', of_eq, bind_some', List.drop_eq_getElem_cons hi, spn_cons]
   show (bif decide (2 ≤ ofB s[i]) then _ else _) = _
   by_cases h : 2 ≤ ofB s[i]
   · rw [if_t h, wrap_succ hi (by omega), ih (i + 1) f (by omega) (by omega), if_pos (by simp [isPartB, h])]
     congr 3; omega
   · rw [if_f h, if_neg (by simp [isPartB, h])]; rfl
 unfold lex_span lex_span_cps
 refine (loop s.length 0 N (by omega) (by omega)).trans ?_
 simp
theorem span1_eq {N : Nat} (hN : 1000000 < N) {s : Bs} (hs : s.length ≤ 1000000) : lex_span_1 N s = some (((spn isFigB s : Nat) : Int), ()) := by
 have loop : ∀ (m i fuel : Nat), i + m = s.length → m < fuel → lex_span_1_l0 N (Int × Unit) (fun v2 => some (v2, ())) fuel s (i : Int) = some (((i + spn isFigB (s.drop i) : Nat) : Int), ()) := by
  intro m
  induction m with
  | zero =>
   intro i fuel h1 h2
   obtain ⟨f, rfl⟩ : ∃ f, fuel = f + 1 := ⟨fuel - 1, by omega⟩
   show lex_span_1_l0B N _ _ _ s (i : Int) = _
   unfold lex_span_1_l0B
   rw [if_f (by omega), List.drop_eq_nil_of_le (by omega)]
   rfl
  | succ m ih =>
   intro i fuel h1 h2
   obtain ⟨f, rfl⟩ : ∃ f, fuel = f + 1 := ⟨fuel - 1, by omega⟩
   show lex_span_1_l0B N _ (lex_span_1_l0 N _ _ f) _ s (i : Int) = _
   unfold lex_span_1_l0B
   have hi : i < s.length := by omega
   rw [if_t (by omega), nth_lt hi, bind_some', of_eq, bind_some', List.drop_eq_getElem_cons hi, spn_cons]
   show (bif decide (ofB s[i] = 3) then _ else _) = _
   by_cases h : ofB s[i] = 3
   · rw [if_t h, wrap_succ hi (by omega), ih (i + 1) f (by omega) (by omega), if_pos (by simp [isFigB, h])]
     congr 3; omega
   · rw [if_f h, if_neg (by simp [isFigB, h])]; rfl
 unfold lex_span_1 lex_span_1_cps
 refine (loop s.length 0 N (by omega) (by omega)).trans ?_
 simp
end Go.Proofs.YtbikfekdakigiaaGreatDoor.E.L
