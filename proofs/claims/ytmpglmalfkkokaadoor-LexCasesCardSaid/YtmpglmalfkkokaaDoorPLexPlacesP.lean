/-
  Plain laws of the pure functions.
  Conditions: those that each statement prints, and no other.
-/
import Derived.Test.YtmpglmalfkkokaaDoorPLexLP
set_option linter.unusedVariables false
set_option linter.unusedSimpArgs false
/-! Where it stands. -/
namespace Go.Proofs.YtmpglmalfkkokaaDoor.E
open Go.Ev

/-- A token's kind, and its text: what stands there, but that a word's letters are small. -/
theorem next_text {s : Bs} {z : Tk} (h : nextP s = some z) : z.1 ≠ 6 ∧ (z.1 = 1 → z.2.1 = Lib.toLowerA (s.take z.2.1.length)) ∧ (z.1 ≠ 1 → z.2.1 = s.take z.2.1.length) := by
  have key : ∀ (n : Nat), s.take n = s.take (s.take n).length := fun n => by rw [List.length_take, List.take_eq_take_min]
  cases s with
  | nil => cases h
  | cons c r =>
    unfold nextP at h
    dsimp only at h
    split at h
    · split at h
      · unfold rawP at h
        split at h
        · cases h
        · split at h
          · cases h
          · obtain ⟨v, hv, rfl⟩ := Option.map_eq_some_iff.1 h
            exact ⟨by simp, fun h => absurd h (by simp), fun _ => key _⟩
      · cases h
        refine ⟨by simp, fun _ => ?_, fun h => absurd rfl h⟩
        simp only [Lib.toLowerA, List.length_map, List.length_take]
        rw [← List.take_eq_take_min]
    · split at h
      · unfold numP at h
        dsimp only at h
        split at h
        · split at h
          · cases h
          · obtain ⟨rfl, _⟩ := numEnd_some h
            exact ⟨by simp, fun h => absurd h (by simp), fun _ => key _⟩
        · obtain ⟨rfl, _⟩ := numEnd_some h
          exact ⟨by simp, fun h => absurd h (by simp), fun _ => key _⟩
      · split at h
        · unfold textP at h
          split at h
          · cases h
          · split at h
            · cases h
            · cases h; exact ⟨by simp, fun h => absurd h (by simp), fun _ => key _⟩
        · unfold signP at h
          have pre : ∀ p : Bs, p <+: c :: r → p = (c :: r).take p.length := fun p hp => List.prefix_iff_eq_take.1 hp
          split at h
          · rename_i hp; cases h; exact ⟨by simp, fun h => absurd h (by simp), fun _ => pre _ hp⟩
          · split at h
            · rename_i hp; cases h; exact ⟨by simp, fun h => absurd h (by simp), fun _ => pre _ hp⟩
            · split at h
              · rename_i hp; cases h; exact ⟨by simp, fun h => absurd h (by simp), fun _ => pre _ hp⟩
              · dsimp only at h
                split at h
                · cases h; exact ⟨by simp, fun h => absurd h (by simp), fun _ => rfl⟩
                · cases h

/-- What stands ahead of a text's first token. -/
theorem Lx_head {s : Bs} {i : Nat} {u : Bs} {L : List TT} (h : Lx i u L) : u = s.drop i → i ≤ s.length →
    (∀ l t, L = t :: l → ∃ (z : Tk) (p : Nat), t = mk z p ∧ i ≤ p ∧ p < s.length ∧ (∀ k, i ≤ k → k < p → ∃ c, s[k]? = some c ∧ ofB c = 1) ∧ nextP (s.drop p) = some z ∧ Lx (p + z.2.1.length) (s.drop (p + z.2.1.length)) l) ∧
    (L = [] → ∀ k, i ≤ k → k < s.length → ∃ c, s[k]? = some c ∧ ofB c = 1) := by
  induction h with
  | nil =>
    rename_i i
    intro hu hi
    refine ⟨fun l t h => (by cases h), fun _ k h1 h2 => ?_⟩
    have := congrArg List.length hu
    simp at this; omega
  | blank hb hl ih =>
    rename_i i c r l
    intro hu hi
    have hlt : i < s.length := by
      have := congrArg List.length hu; simp at this; omega
    have e := List.drop_eq_getElem_cons hlt
    rw [e] at hu; cases hu
    obtain ⟨a1, a2⟩ := ih rfl (by omega)
    have hbl : ∀ k, i = k → ∃ c, s[k]? = some c ∧ ofB c = 1 := fun k hk => by subst hk; exact ⟨_, List.getElem?_eq_getElem hlt, hb⟩
    refine ⟨fun l' t hL => ?_, fun hL k h1 h2 => ?_⟩
    · obtain ⟨z, p, h1, h2, h3, h4, h5⟩ := a1 l' t hL
      exact ⟨z, p, h1, by omega, h3, fun k k1 k2 => (Nat.eq_or_lt_of_le k1).elim (fun hk => hbl k hk) (fun hk => h4 k (by omega) k2), h5⟩
    · by_cases hk : i = k
      · exact hbl k hk
      · exact a2 hL k (by omega) h2
  | tok hb hn hl ih =>
    rename_i i c r z l
    intro hu hi
    have hlt : i < s.length := by
      have := congrArg List.length hu; simp at this; omega
    refine ⟨fun l' t hL => ?_, fun hL => by cases hL⟩
    cases hL
    refine ⟨z, i, rfl, Nat.le_refl _, hlt, fun k h1 h2 => by omega, by rw [← hu]; exact hn, ?_⟩
    rw [hu, List.drop_drop] at hl
    exact hl

theorem blank_is {c : UInt8} (h : ofB c = 1) : c.toNat = 32 ∨ c.toNat = 9 ∨ c.toNat = 10 ∨ c.toNat = 13 := by
  unfold ofB at h
  split at h
  · omega
  · split at h
    · omega
    · split at h
      · assumption
      · split at h <;> omega

theorem low_eq (N : Nat) (c : UInt8) : law16_low N (c.toNat : Int) = some (((Lib.lowerB c).toNat : Int), ()) := by
  have hc := c.toNat_lt
  unfold law16_low law16_low_cps
  have hu : Lib.isUpperB c = true ↔ 65 ≤ c.toNat ∧ c.toNat ≤ 90 := by
    unfold Lib.isUpperB
    simp [UInt8.le_iff_toNat_le]
  unfold Lib.lowerB
  by_cases h1 : 65 ≤ c.toNat
  · rw [if_t (by omega)]
    by_cases h2 : c.toNat ≤ 90
    · rw [if_t (by omega), if_pos (hu.2 ⟨h1, h2⟩), wrap_u8_id (by omega) (by omega), UInt8.toNat_add]
      congr 2
      have : (32 : UInt8).toNat = 32 := rfl
      rw [this]; omega
    · rw [if_f (by omega), if_neg (fun h => h2 (hu.1 h).2)]
  · rw [if_f (by omega), if_neg (fun h => h1 (hu.1 h).1)]

theorem places_l3 {N : Nat} {R : Type} {k0 : Bs → List TT → Int → Int → Int → Bs → Int → Int → Bs → Int → Option R} {k1 : Bs → Bool → List TT → Int → Int → Int → Bs → Int → Int → Bs → Int → Option R} {s : Bs} {L : List TT} {at_ i kind a b : Int} {t c : Bs} {p : Nat} (hp : p ≤ s.length) (hs : s.length ≤ 1000) :
    ∀ (m k fuel : Nat), k + m = p → m < fuel → (∀ j, k ≤ j → j < p → ∃ x, s[j]? = some x ∧ ofB x = 1) → law16_LexPlaces_l3 N R k0 k1 fuel s L at_ i (k : Int) kind t a b c (p : Int) = k0 s L at_ i kind t a b c (p : Int) := by
  intro m
  induction m with
  | zero =>
    intro k fuel h1 h2 _
    obtain ⟨f, rfl⟩ : ∃ f, fuel = f + 1 := ⟨fuel - 1, by omega⟩
    show law16_LexPlaces_l3B N R _ k0 k1 s L at_ i (k : Int) kind t a b c (p : Int) = _
    unfold law16_LexPlaces_l3B
    rw [if_f (by omega)]
  | succ m ih =>
    intro k fuel h1 h2 h3
    obtain ⟨f, rfl⟩ : ∃ f, fuel = f + 1 := ⟨fuel - 1, by omega⟩
    show law16_LexPlaces_l3B N R (law16_LexPlaces_l3 N R k0 k1 f) k0 k1 s L at_ i (k : Int) kind t a b c (p : Int) = _
    unfold law16_LexPlaces_l3B
    obtain ⟨x, hx, hb⟩ := h3 k (Nat.le_refl _) (by omega)
    have hk : k < s.length := by omega
    have hn : nth s (k : Int) = some x := by rw [nth_nat]; exact hx
    have step : law16_LexPlaces_l3 N R k0 k1 f s L at_ i (IntKind.wrap .i64 ((k : Int) + 1)) kind t a b c (p : Int) = k0 s L at_ i kind t a b c (p : Int) := by
      rw [wrap_succ hk (by omega)]
      exact ih (k + 1) f (by omega) (by omega) (fun j j1 j2 => h3 j (by omega) j2)
    rw [if_t (by omega), hn, bind_some', bind_some', bind_some', bind_some', step]
    rcases blank_is hb with h | h | h | h
    · rw [cond_f (by rw [dec_t (by omega)]; rfl)]
    · by_cases g : (x.toNat : Int) = 32
      · rw [cond_f (by rw [dec_t g]; rfl)]
      · rw [cond_t (by rw [dec_f g]; rfl), cond_f (by rw [dec_t (by omega)]; rfl)]
    · rw [cond_t (by rw [dec_f (by omega)]; rfl), cond_t (by rw [dec_f (by omega)]; rfl), cond_f (by rw [dec_t (by omega)]; rfl)]
    · rw [cond_t (by rw [dec_f (by omega)]; rfl), cond_t (by rw [dec_f (by omega)]; rfl), cond_t (by rw [dec_f (by omega)]; rfl), cond_f (by rw [dec_t (by omega)]; rfl)]

theorem places_l4 {N : Nat} {R : Type} {k0 : Bs → List TT → Int → Int → Int → Bs → Int → Int → Bs → Int → Option R} {k1 : Bs → Bool → List TT → Int → Int → Int → Bs → Int → Int → Bs → Int → Option R} {s : Bs} {L : List TT} {at_ i kind a b : Int} {t c : Bs} {p : Nat} (hp : p + t.length ≤ s.length) (hs : s.length ≤ 1000)
    (ht : ∀ k x, t[k]? = some x → ∃ y, s[p + k]? = some y ∧ (if kind = 1 then Lib.lowerB y else y) = x) :
    ∀ (m k fuel : Nat), k + m = t.length → m < fuel → law16_LexPlaces_l4 N R k0 k1 fuel s L at_ i (k : Int) kind t a b c (p : Int) = k0 s L at_ i kind t a b c (p : Int) := by
  intro m
  induction m with
  | zero =>
    intro k fuel h1 h2
    obtain ⟨f, rfl⟩ : ∃ f, fuel = f + 1 := ⟨fuel - 1, by omega⟩
    show law16_LexPlaces_l4B N R _ k0 k1 s L at_ i (k : Int) kind t a b c (p : Int) = _
    unfold law16_LexPlaces_l4B
    rw [if_f (by omega)]
  | succ m ih =>
    intro k fuel h1 h2
    obtain ⟨f, rfl⟩ : ∃ f, fuel = f + 1 := ⟨fuel - 1, by omega⟩
    show law16_LexPlaces_l4B N R (law16_LexPlaces_l4 N R k0 k1 f) k0 k1 s L at_ i (k : Int) kind t a b c (p : Int) = _
    unfold law16_LexPlaces_l4B
    have hk : k < t.length := by omega
    obtain ⟨y, hy, he⟩ := ht k _ (List.getElem?_eq_getElem hk)
    have hw : IntKind.wrap .i64 ((p : Int) + (k : Int)) = ((p + k : Nat) : Int) := by rw [wrap_i64_id (by omega) (by omega)]; omega
    have hn : nth s ((p + k : Nat) : Int) = some y := by rw [nth_nat]; exact hy
    have step : law16_LexPlaces_l4 N R k0 k1 f s L at_ i (IntKind.wrap .i64 ((k : Int) + 1)) kind t a b c (p : Int) = k0 s L at_ i kind t a b c (p : Int) := by
      rw [wrap_succ hk (by omega)]
      exact ih (k + 1) f (by omega) (by omega)
    rw [if_t (by omega), hw, hn, bind_some', low_eq, bind_some', nth_lt hk, bind_some', bind_some', step]
    by_cases h1 : kind = 1
    · rw [if_pos h1] at he
      rw [if_t h1, cond_f (by rw [he]; simp)]
    · rw [if_neg h1] at he
      rw [if_f h1, cond_f (by rw [he]; simp)]

theorem places_text {s : Bs} {p : Nat} {z : Tk} (hn : nextP (s.drop p) = some z) (k : Nat) (x : UInt8) (hx : z.2.1[k]? = some x) : ∃ y, s[p + k]? = some y ∧ (if z.1 = 1 then Lib.lowerB y else y) = x := by
  obtain ⟨_, h1, h2⟩ := next_text hn
  by_cases hk : z.1 = 1
  · rw [h1 hk] at hx
    simp only [Lib.toLowerA, List.getElem?_map, Option.map_eq_some_iff] at hx
    obtain ⟨y, hy, rfl⟩ := hx
    rw [List.getElem?_take] at hy
    split at hy
    · rw [List.getElem?_drop] at hy; exact ⟨y, hy, by rw [if_pos hk]⟩
    · cases hy
  · rw [h2 hk] at hx
    rw [List.getElem?_take] at hx
    split at hx
    · rw [List.getElem?_drop] at hx; exact ⟨x, hx, by rw [if_neg hk]⟩
    · cases hx

theorem places_l1 {N : Nat} (hN : 1000000 < N) {R : Type} {k0 : Bs → Int → Option R} {k1 : Bs → Bool → Int → Option R} {s : Bs} (hs : s.length ≤ 1000) {L : List TT} (hL : L.length ≤ 1001) : ∀ (l : List TT) (i p fuel : Nat), l.length < fuel → p ≤ s.length → L.drop i = l ++ [endT s.length] → Lx p (s.drop p) l →
    law16_LexPlaces_l1 N R k0 k1 (fuel + 1) s L (p : Int) (i : Int) = k0 s (s.length : Int) := by
  intro l
  induction l with
  | nil =>
    intro i p fuel hf hp hd hl
    have hi : i < L.length := by have := congrArg List.length hd; simp at this; omega
    have hlen : L.length = i + 1 := by have := congrArg List.length hd; simp at this; omega
    have e := List.drop_eq_getElem_cons hi
    rw [e] at hd
    have ht : L[i] = endT s.length := by injection hd
    obtain ⟨f, rfl⟩ : ∃ f, fuel = f + 1 := ⟨fuel - 1, by simp at hf; omega⟩
    show law16_LexPlaces_l1B N R (law16_LexPlaces_l1 N R k0 k1 (f + 1)) k0 k1 s L (p : Int) (i : Int) = _
    unfold law16_LexPlaces_l1B
    have hw : IntKind.wrap .i64 ((s.length : Int) + ((endT s.length).2.1.length : Int)) = (s.length : Int) := by
      show IntKind.wrap .i64 ((s.length : Int) + (([] : Bs).length : Int)) = _
      rw [wrap_i64_id (by simp <;> omega) (by simp <;> omega)]; rfl
    have hw2 : IntKind.wrap .i64 ((L.length : Int) - 1) = (i : Int) := by rw [wrap_i64_id (by omega) (by omega)]; omega
    have a4 : (endT s.length).2.2.2.1 = (s.length : Int) := rfl
    rw [if_t (by omega), nth_lt hi, bind_some', ht, a4, if_f (by omega), if_f (by omega), hw, if_f (by omega), hw2, cond_f (by rw [dec_t (show (endT s.length).1 = 6 from rfl), dec_t rfl]; rfl)]
    unfold law16_LexPlaces_j2
    have hb := (Lx_head hl (s := s) rfl hp).2 rfl
    refine (places_l3 (Nat.le_refl _) hs (s.length - p) p N (by omega) (by omega) hb).trans ?_
    refine (places_l4 (p := s.length) (t := (endT s.length).2.1) (by show s.length + ([] : Bs).length ≤ _; simp) hs (fun k x hx => by cases hx) 0 0 N rfl (by omega)).trans ?_
    show law16_LexPlaces_l1 N R k0 k1 (f + 1) s L (IntKind.wrap .i64 ((s.length : Int) + ((endT s.length).2.1.length : Int))) (IntKind.wrap .i64 ((i : Int) + 1)) = _
    rw [hw, wrap_succ hi (by omega)]
    show law16_LexPlaces_l1B N R _ k0 k1 s L _ _ = _
    unfold law16_LexPlaces_l1B
    rw [if_f (by omega)]
  | cons t l ih =>
    intro i p fuel hf hp hd hl
    have hi : i < L.length := by have := congrArg List.length hd; simp at this; omega
    have hlen : i + 1 < L.length := by have := congrArg List.length hd; simp at this; omega
    have e := List.drop_eq_getElem_cons hi
    rw [e] at hd
    have ht : L[i] = t := by injection hd
    have hd' : L.drop (i + 1) = l ++ [endT s.length] := by injection hd
    obtain ⟨z, q, rfl, hq, hq2, hb, hn, hl'⟩ := (Lx_head hl (s := s) rfl hp).1 l t rfl
    obtain ⟨n1, n2⟩ := next_len hn
    simp only [List.length_drop] at n2
    simp only [List.length_cons] at hf
    obtain ⟨f, rfl⟩ : ∃ f, fuel = f + 1 := ⟨fuel - 1, by omega⟩
    show law16_LexPlaces_l1B N R (law16_LexPlaces_l1 N R k0 k1 (f + 1)) k0 k1 s L (p : Int) (i : Int) = _
    unfold law16_LexPlaces_l1B
    have a2 : (mk z q).2.1 = z.2.1 := rfl
    have a4 : (mk z q).2.2.2.1 = (q : Int) := rfl
    have hw : IntKind.wrap .i64 ((q : Int) + (z.2.1.length : Int)) = ((q + z.2.1.length : Nat) : Int) := by rw [wrap_i64_id (by omega) (by omega)]; omega
    have hw2 : IntKind.wrap .i64 ((L.length : Int) - 1) = (L.length : Int) - 1 := wrap_i64_id (by omega) (by omega)
    rw [if_t (by omega), nth_lt hi, bind_some', ht, a4, if_f (by omega), if_f (by omega), a2, hw, if_f (by omega), hw2,
      cond_f (by rw [dec_f (show ¬ (mk z q).1 = 6 from (next_text hn).1), dec_f (by omega)]; rfl)]
    unfold law16_LexPlaces_j2
    refine (places_l3 (by omega) hs (q - p) p N (by omega) (by omega) hb).trans ?_
    refine (places_l4 (p := q) (t := z.2.1) (by omega) hs (places_text hn) z.2.1.length 0 N (by omega) (by omega)).trans ?_
    show law16_LexPlaces_l1 N R k0 k1 (f + 1) s L (IntKind.wrap .i64 ((q : Int) + (z.2.1.length : Int))) (IntKind.wrap .i64 ((i : Int) + 1)) = _
    rw [hw, wrap_succ hi (by omega)]
    exact ih (i + 1) (q + z.2.1.length) f (by omega) (by omega) hd' hl'

theorem LexPlaces_all (s : Bs) : law16_LexPlaces big s = some (true, ()) := by
  have ha := alive16
  have hb := big_million
  generalize big = N at ha hb
  unfold law16_LexPlaces law16_LexPlaces_cps
  rw [ha, bind_some']
  rcases Lex_eq hb s with ⟨h1, l, hl, hr⟩ | ⟨_, p, hr⟩
  · have hll := Lx_len hl
    rw [hr, bind_some', if_f (by omega)]
    unfold law16_LexPlaces_j0
    obtain ⟨f, hf⟩ : ∃ f, N = f + 1 := ⟨N - 1, by omega⟩
    have := places_l1 hb (R := Bool × Unit) (k0 := fun v9 v10 => Option.bind (law16_alive N) fun v11 => bif v11.1 then some (decide (v10 = (v9.length : Int)), ()) else some (false, ())) (k1 := fun _ v13 v14 => some (v13, ())) h1 (L := l ++ [endT s.length]) (by simp; omega) l 0 0 f (by omega) (by omega) rfl hl
    refine (congrArg (fun m => law16_LexPlaces_l1 N _ _ _ m _ _ _ _) hf).trans (this.trans ?_)
    rw [ha]; simp
  · rw [hr, bind_some']
    by_cases h : (1200 : Int) < s.length
    · rw [if_t h]
    · rw [if_f h]; rfl

theorem LexPlaces_pure : LexPlaces_Pure := fun x _ => LexPlaces_all _

end Go.Proofs.YtmpglmalfkkokaaDoor.E
