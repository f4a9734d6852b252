/-
  Plain laws of the pure functions.
  Conditions: those that each statement prints, and no other.
-/
import Derived.Test.YtmpglmalfkkokaaDoorPLexDP
import Derived.Test.YtmpglmalfkkokaaDoorPLexPlacesP
set_option linter.unusedVariables false
set_option linter.unusedSimpArgs false
/-! Joined anew, and split again. -/
namespace Go.Proofs.YtmpglmalfkkokaaDoor.E
open Go.Ev

theorem up_iff {c : UInt8} : Lib.isUpperB c = true ↔ 65 ≤ c.toNat ∧ c.toNat ≤ 90 := by
  unfold Lib.isUpperB
  simp [UInt8.le_iff_toNat_le]

theorem low_toNat (c : UInt8) : (Lib.lowerB c).toNat = if 65 ≤ c.toNat ∧ c.toNat ≤ 90 then c.toNat + 32 else c.toNat := by
  unfold Lib.lowerB
  by_cases h : 65 ≤ c.toNat ∧ c.toNat ≤ 90
  · rw [if_pos (up_iff.2 h), if_pos h, UInt8.toNat_add]
    have : (32 : UInt8).toNat = 32 := rfl
    rw [this]; omega
  · rw [if_neg (fun e => h (up_iff.1 e)), if_neg h]

theorem low_low (c : UInt8) : Lib.lowerB (Lib.lowerB c) = Lib.lowerB c := by
  apply UInt8.toNat_inj.1
  rw [low_toNat, low_toNat]
  have := c.toNat_lt
  by_cases h : 65 ≤ c.toNat ∧ c.toNat ≤ 90
  · rw [if_pos h, if_neg (by omega)]
  · rw [if_neg h, if_neg h]

theorem ofB_low (c : UInt8) : ofB (Lib.lowerB c) = ofB c := by
  unfold ofB
  rw [low_toNat]
  split
  · rename_i h
    rw [if_pos (.inl (by omega)), if_pos (.inr h)]
  · rfl

theorem lower_lower (a : Bs) : Lib.toLowerA (Lib.toLowerA a) = Lib.toLowerA a := by
  simp only [Lib.toLowerA, List.map_map]
  apply List.map_congr_left
  intro c _
  exact low_low c

theorem word_inv {c : UInt8} {r : Bs} {z : Tk} (h : nextP (c :: r) = some z) (hz : z.1 = 1) : ofB c = 2 ∧ z = (1, (Lib.toLowerA ((c :: r).take (spn isPartB (c :: r))), (0, (0, [])))) := by
  unfold nextP at h
  dsimp only at h
  split at h
  · rename_i h2
    split at h
    · unfold rawP at h
      split at h
      · cases h
      · split at h
        · cases h
        · obtain ⟨v, hv, rfl⟩ := Option.map_eq_some_iff.1 h
          simp at hz
    · cases h; exact ⟨h2, rfl⟩
  · split at h
    · unfold numP at h
      dsimp only at h
      split at h
      · split at h
        · cases h
        · obtain ⟨rfl, _⟩ := numEnd_some h
          simp at hz
      · obtain ⟨rfl, _⟩ := numEnd_some h
        simp at hz
    · split at h
      · unfold textP at h
        split at h
        · cases h
        · split at h
          · cases h
          · cases h; simp at hz
      · unfold signP at h
        split at h
        · cases h; simp at hz
        · split at h
          · cases h; simp at hz
          · split at h
            · cases h; simp at hz
            · dsimp only at h
              split at h
              · cases h; simp at hz
              · cases h

/-- A token's text gives the token again. -/
theorem again_next {s : Bs} {z : Tk} (h : nextP s = some z) (r : Bs) : nextP (z.2.1 ++ 32 :: r) = some z := by
  obtain ⟨l1, l2⟩ := next_len h
  obtain ⟨_, t1, t2⟩ := next_text h
  by_cases hz : z.1 = 1
  · cases s with
    | nil => cases h
    | cons c q =>
      obtain ⟨h2, e⟩ := word_inv h hz
      have hsl := spn_le isPartB (c :: q)
      have hall : ∀ x ∈ (c :: q).take (spn isPartB (c :: q)), isPartB x = true := by
        intro x hx
        rw [take_spn] at hx
        exact tw_mem hx
      have hs : spn isPartB (c :: q) = spn isPartB q + 1 := by rw [spn_cons, if_pos (by simp [isPartB, h2])]
      rw [hs, List.take_succ_cons] at e hall
      have key := word_of (c := Lib.lowerB c) (a := Lib.toLowerA (q.take (spn isPartB q))) (q := 32 :: r) (by rw [ofB_low]; exact h2)
        (by
          intro x hx
          have hx : x ∈ (c :: q.take (spn isPartB q)).map Lib.lowerB := hx
          obtain ⟨y, hy, rfl⟩ := List.mem_map.1 hx
          have := hall y hy
          unfold isPartB at *
          rw [ofB_low]; exact this)
        (by intro x hx; injection hx with hx; rw [← hx]; exact part32)
        (by
          rintro ⟨hp, _⟩
          have hp := pre1.1 hp
          cases hq : q.take (spn isPartB q) with
          | nil => rw [hq] at hp; cases hp
          | cons y p =>
            rw [hq] at hp
            have hy := hall y (by rw [hq]; simp)
            have : Lib.lowerB y = 39 := by injection hp
            unfold isPartB at hy
            rw [← ofB_low, this] at hy
            exact absurd hy (by decide))
      have e2 : (Lib.toLowerA (c :: q.take (spn isPartB q))) = Lib.lowerB c :: Lib.toLowerA (q.take (spn isPartB q)) := rfl
      have e3 : Lib.toLowerA (Lib.lowerB c :: Lib.toLowerA (q.take (spn isPartB q))) = Lib.toLowerA (c :: q.take (spn isPartB q)) := by
        rw [← e2, lower_lower]
      rw [e3] at key
      rw [e]
      show nextP (Lib.toLowerA (c :: q.take (spn isPartB q)) ++ 32 :: r) = _
      rw [e2]
      exact key
  · have ht := t2 hz
    have h' : nextP (z.2.1 ++ s.drop z.2.1.length) = some z := by
      conv => lhs; arg 1; arg 1; rw [ht]
      rw [List.take_append_drop]; exact h
    exact next_cut (q' := 32 :: r) (.inr rfl) h' rfl

def joinT : List TT → Bs
  | [] => []
  | t :: l => t.2.1 ++ 32 :: joinT l

abbrev core (t : TT) := (t.1, t.2.1, t.2.2.1)

theorem joinT_len {i : Nat} {s : Bs} {l : List TT} (h : Lx i s l) : (joinT l).length ≤ 2 * s.length := by
  induction h with
  | nil => simp [joinT]
  | blank _ _ ih => simp; omega
  | tok _ hn _ ih =>
    have := next_len hn
    simp only [List.length_drop, List.length_cons] at *
    simp only [joinT, mk, List.length_append, List.length_cons]; omega

theorem again_lx {i : Nat} {s : Bs} {l : List TT} (h : Lx i s l) : ∀ j, ∃ l', Lx j (joinT l ++ [32]) l' ∧ l'.map core = l.map core := by
  induction h with
  | nil => exact fun j => ⟨[], .blank (by decide) .nil, rfl⟩
  | blank _ _ ih => exact ih
  | tok _ hn _ ih =>
    rename_i i c r z l hb _
    intro j
    obtain ⟨l', h1, h2⟩ := ih (j + z.2.1.length + 1)
    refine ⟨mk z j :: l', ?_, by simp only [List.map_cons, h2]; rfl⟩
    have hn' := again_next hn (joinT l ++ [32])
    obtain ⟨m1, _⟩ := next_len hn
    have e : joinT (mk z i :: l) ++ [32] = z.2.1 ++ 32 :: (joinT l ++ [32]) := by
      show (z.2.1 ++ 32 :: joinT l) ++ [32] = _
      simp
    rw [e]
    obtain ⟨d, t, ht⟩ : ∃ d t, z.2.1 = d :: t := by
      cases hz : z.2.1 with
      | nil => rw [hz] at m1; simp at m1
      | cons d t => exact ⟨d, t, rfl⟩
    have hc : z.2.1 ++ 32 :: (joinT l ++ [32]) = d :: (t ++ 32 :: (joinT l ++ [32])) := by rw [ht]; rfl
    rw [hc] at hn' ⊢
    refine .tok (fun hd => by rw [next_blank hd] at hn'; cases hn') hn' ?_
    rw [← hc, drop_app]
    exact .blank (by decide) h1

theorem again_l1 {N : Nat} {R : Type} {k0 : List TT → Bs → Option R} {L : List TT} (hL : L.length ≤ 1000) : ∀ (m i fuel : Nat) (acc : Bs), i + m = L.length → m < fuel → acc.length + (joinT (L.drop i)).length ≤ 1000 →
    law16_LexAgain_l1 N R k0 fuel L acc (i : Int) = k0 L (acc ++ joinT (L.drop i)) := by
  intro m
  induction m with
  | zero =>
    intro i fuel acc h1 h2 h3
    obtain ⟨f, rfl⟩ : ∃ f, fuel = f + 1 := ⟨fuel - 1, by omega⟩
    show law16_LexAgain_l1B N R _ k0 L acc (i : Int) = _
    unfold law16_LexAgain_l1B
    rw [if_f (by omega), List.drop_eq_nil_of_le (by omega)]
    simp [joinT]
  | succ m ih =>
    intro i fuel acc h1 h2 h3
    obtain ⟨f, rfl⟩ : ∃ f, fuel = f + 1 := ⟨fuel - 1, by omega⟩
    have hi : i < L.length := by omega
    have e := List.drop_eq_getElem_cons hi
    rw [e] at h3 ⊢
    simp only [joinT, List.length_append, List.length_cons] at h3
    show law16_LexAgain_l1B N R (law16_LexAgain_l1 N R k0 f) k0 L acc (i : Int) = _
    unfold law16_LexAgain_l1B
    rw [if_t (by omega), nth_lt hi, bind_some', cond_t (room_one (by omega)), cond_t (room_one (by simp; omega)), wrap_succ hi (by omega), ih (i + 1) f _ (by omega) (by omega) (by simp; omega)]
    simp [joinT]

theorem again_l3 {N : Nat} {R : Type} {k0 : Option R} {k1 : Bool → Option R} {A B : List TT} (hA : A.length ≤ 1000) (hB : B.map core = A.map core) : ∀ (m i fuel : Nat), i + m = A.length → m < fuel →
    law16_LexAgain_l3 N R k0 k1 fuel A B (i : Int) = k0 := by
  have hlen : B.length = A.length := by
    have := congrArg List.length hB
    simpa using this
  intro m
  induction m with
  | zero =>
    intro i fuel h1 h2
    obtain ⟨f, rfl⟩ : ∃ f, fuel = f + 1 := ⟨fuel - 1, by omega⟩
    show law16_LexAgain_l3B N R _ k0 k1 A B (i : Int) = _
    unfold law16_LexAgain_l3B
    rw [if_f (by omega)]
  | succ m ih =>
    intro i fuel h1 h2
    obtain ⟨f, rfl⟩ : ∃ f, fuel = f + 1 := ⟨fuel - 1, by omega⟩
    have hi : i < A.length := by omega
    have hi' : i < B.length := by omega
    have hc : core B[i] = core A[i] := by
      have : (B.map core)[i]? = (A.map core)[i]? := by rw [hB]
      rw [List.getElem?_map, List.getElem?_map, List.getElem?_eq_getElem hi, List.getElem?_eq_getElem hi'] at this
      exact Option.some.inj this
    have c1 : B[i].1 = A[i].1 := congrArg (·.1) hc
    have c2 : B[i].2.1 = A[i].2.1 := congrArg (·.2.1) hc
    have c3 : B[i].2.2.1 = A[i].2.2.1 := congrArg (·.2.2) hc
    show law16_LexAgain_l3B N R (law16_LexAgain_l3 N R k0 k1 f) k0 k1 A B (i : Int) = _
    unfold law16_LexAgain_l3B
    rw [if_t (by omega), nth_lt hi', bind_some', nth_lt hi, bind_some', c1, cond_f (by simp), bind_some', bind_some', c2, cond_f (by simp), bind_some', bind_some', c3, cond_f (by simp), wrap_succ hi (by omega)]
    exact ih (i + 1) f (by omega) (by omega)

theorem joinT_app (l : List TT) (t : TT) : joinT (l ++ [t]) = joinT l ++ (t.2.1 ++ [32]) := by
  induction l with
  | nil => rfl
  | cons a l ih => simp [joinT, ih]

theorem LexAgain_all (s : Bs) : law16_LexAgain big s = some (true, ()) := by
  have ha := alive16
  have hb := big_million
  generalize big = N at ha hb
  unfold law16_LexAgain law16_LexAgain_cps
  rw [ha, bind_some']
  rcases Lex_eq hb s with ⟨h1, l, hl, hr⟩ | ⟨_, p, hr⟩
  · rw [hr, bind_some']
    dsimp only
    by_cases h4 : 400 < s.length
    · rw [if_t (by omega)]
    · rw [if_f (by omega), cond_f (show (!Err.isNil Err.nil) = false from rfl)]
      have hll := Lx_len hl
      have hjl := joinT_len hl
      have hj : joinT (l ++ [endT s.length]) = joinT l ++ [32] := joinT_app _ _
      unfold law16_LexAgain_j0
      refine (again_l1 (L := l ++ [endT s.length]) (by simp; omega) (l.length + 1) 0 N [] (by simp) (by omega) (by rw [List.drop_zero, hj]; simp; omega)).trans ?_
      rw [List.drop_zero, List.nil_append, hj]
      obtain ⟨l', k1, k2⟩ := again_lx hl 0
      have hlen : l'.length = l.length := by
        have := congrArg List.length k2
        simpa using this
      rw [Lex_ok hb (by simp; omega) k1, bind_some']
      dsimp only
      rw [cond_f (show (!Err.isNil Err.nil) = false from rfl), cond_f (by simp [hlen])]
      unfold law16_LexAgain_j2
      refine (again_l3 (A := l ++ [endT s.length]) (B := l' ++ [endT (joinT l ++ [32]).length]) (by simp; omega) (by rw [List.map_append, List.map_append, k2]; rfl) (l.length + 1) 0 N (by simp) (by omega)).trans ?_
      rw [ha]; rfl
  · rw [hr, bind_some']
    by_cases h : (400 : Int) < s.length
    · rw [if_t h]
    · rw [if_f h]; rfl

theorem LexAgain_pure : LexAgain_Pure := fun x _ => LexAgain_all _

end Go.Proofs.YtmpglmalfkkokaaDoor.E
